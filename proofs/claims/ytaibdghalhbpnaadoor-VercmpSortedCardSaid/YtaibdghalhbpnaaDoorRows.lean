/-
  NARROWER THAN 'FOR EVERY INPUT', by the rows' own cells (each row's printed sentence says how): SpanMeets: laid · SpanEither: laid · SpanBoth: laid · SpanMore: laid · SpanParted: laid · SpanOps: laid · SpanNames: laid · VercmpTells: laid · VercmpSorts: laid · VercmpNames: laid · VercmpRow: laid · VercmpBehind: laid · VercmpNothing: laid · VercmpAhead: laid · VercmpSorted: laid · EvrNames: laid · EvrTells: laid · EvrBack: laid · EvrOrder: laid · EvrParts: laid.
  DERIVED. THE GIVEN ROWS OF THIS SEAT. 20 by the template 'for every input the law returns true; each argument reads behind the call as it read before'; 0 by the template 'total and deterministic' (their statements: YtaibdghalhbpnaaDoorTotals.lean).
  GIVEN WITH THE SEED: the statements are not yours to turn. If you find one false, say at which input.
  Laid BY PROGRAM, IN A SANDBOX (cutbox-rows.mjs): the forced cells as the released guide's own fill.sh prints them over the translation e9df1913b68fb50b… (all of the seat's roots in one cut). By AI agents, Wed Nov 11 2026. No macro, syntax, notation, axiom, sorry.
-/
import Derived.Test.YtaibdghalhbpnaaDoorChecked
import GoSem.PinnedTables
import GoSem.Claim
import GoSem.ClaimJoined
import GoSem.ClaimMapViews
import Derived.JoinedTies
import Derived.KernelRfl
namespace Go.Proofs.YtaibdghalhbpnaaDoor
/- THE CELL 'sum', in the pinned program and in every row, IS THE sha256 OF THE DUMP (.gsa) THAT YtaibdghalhbpnaaDoorProg.lean LOADS. Nothing in Lean hashes anything: it is a label: what it is worth is what the hold of that sum in a sandbox is worth. -/
noncomputable def Tryd.pinned : Pinned := { name := "ytaibdghalhbpnaadoor", sum := "e9df1913b68fb50bdcdd86349687e30688f5da84a29aa48c0b2bef4aff5f24ac", checked := Tryd.checked }
namespace Rows
def none {H : Type} : Left H := { results := [], args := [] }

/- WHAT THE LISTED PACKAGE-LEVEL VARIABLES READ AS WHEN THE CALL BEGINS. Each datum BY PROGRAM (the guide's laid-datum.mjs) off the statement by which the dump's own 'gosem.cut.vars' lays the variable. In a bare row this is a premise. The card (YtaibdghalhbpnaaDoorCards.lean) ties it to the program's text. -/
def laid_unicode_utf8_acceptRanges {H : Type} : DataW H := .agg [.agg [.lit (.int .u8 128), .lit (.int .u8 191)], .agg [.lit (.int .u8 160), .lit (.int .u8 191)], .agg [.lit (.int .u8 128), .lit (.int .u8 159)], .agg [.lit (.int .u8 144), .lit (.int .u8 191)], .agg [.lit (.int .u8 128), .lit (.int .u8 143)], .agg [.lit (.int .u8 0), .lit (.int .u8 0)], .agg [.lit (.int .u8 0), .lit (.int .u8 0)], .agg [.lit (.int .u8 0), .lit (.int .u8 0)], .agg [.lit (.int .u8 0), .lit (.int .u8 0)], .agg [.lit (.int .u8 0), .lit (.int .u8 0)], .agg [.lit (.int .u8 0), .lit (.int .u8 0)], .agg [.lit (.int .u8 0), .lit (.int .u8 0)], .agg [.lit (.int .u8 0), .lit (.int .u8 0)], .agg [.lit (.int .u8 0), .lit (.int .u8 0)], .agg [.lit (.int .u8 0), .lit (.int .u8 0)], .agg [.lit (.int .u8 0), .lit (.int .u8 0)]]
def laid_chandlery_span_ops {H : Type} : DataW H := .map [(.string [], .lit (.int .u8 0)), (.string [60], .lit (.int .u8 1)), (.string [60, 61], .lit (.int .u8 3)), (.string [61], .lit (.int .u8 2)), (.string [62], .lit (.int .u8 4)), (.string [62, 61], .lit (.int .u8 6))]
/-- One of Go's own tables, pinned by name: the form's constant. -/
def laid_unicode_utf8_first : DataW Unit := Go.Pinned.utf8First
def laid_math_bits_deBruijn32tab {H : Type} : DataW H := .agg [.lit (.int .u8 0), .lit (.int .u8 1), .lit (.int .u8 28), .lit (.int .u8 2), .lit (.int .u8 29), .lit (.int .u8 14), .lit (.int .u8 24), .lit (.int .u8 3), .lit (.int .u8 30), .lit (.int .u8 22), .lit (.int .u8 20), .lit (.int .u8 15), .lit (.int .u8 25), .lit (.int .u8 17), .lit (.int .u8 4), .lit (.int .u8 8), .lit (.int .u8 31), .lit (.int .u8 27), .lit (.int .u8 13), .lit (.int .u8 23), .lit (.int .u8 21), .lit (.int .u8 19), .lit (.int .u8 16), .lit (.int .u8 7), .lit (.int .u8 26), .lit (.int .u8 12), .lit (.int .u8 18), .lit (.int .u8 6), .lit (.int .u8 11), .lit (.int .u8 5), .lit (.int .u8 10), .lit (.int .u8 9)]
def laid_math_bits_deBruijn64tab {H : Type} : DataW H := .agg [.lit (.int .u8 0), .lit (.int .u8 1), .lit (.int .u8 56), .lit (.int .u8 2), .lit (.int .u8 57), .lit (.int .u8 49), .lit (.int .u8 28), .lit (.int .u8 3), .lit (.int .u8 61), .lit (.int .u8 58), .lit (.int .u8 42), .lit (.int .u8 50), .lit (.int .u8 38), .lit (.int .u8 29), .lit (.int .u8 17), .lit (.int .u8 4), .lit (.int .u8 62), .lit (.int .u8 47), .lit (.int .u8 59), .lit (.int .u8 36), .lit (.int .u8 45), .lit (.int .u8 43), .lit (.int .u8 51), .lit (.int .u8 22), .lit (.int .u8 53), .lit (.int .u8 39), .lit (.int .u8 33), .lit (.int .u8 30), .lit (.int .u8 24), .lit (.int .u8 18), .lit (.int .u8 12), .lit (.int .u8 5), .lit (.int .u8 63), .lit (.int .u8 55), .lit (.int .u8 48), .lit (.int .u8 27), .lit (.int .u8 60), .lit (.int .u8 41), .lit (.int .u8 37), .lit (.int .u8 16), .lit (.int .u8 46), .lit (.int .u8 35), .lit (.int .u8 44), .lit (.int .u8 21), .lit (.int .u8 52), .lit (.int .u8 32), .lit (.int .u8 23), .lit (.int .u8 11), .lit (.int .u8 54), .lit (.int .u8 26), .lit (.int .u8 40), .lit (.int .u8 15), .lit (.int .u8 34), .lit (.int .u8 20), .lit (.int .u8 31), .lit (.int .u8 10), .lit (.int .u8 25), .lit (.int .u8 14), .lit (.int .u8 19), .lit (.int .u8 9), .lit (.int .u8 13), .lit (.int .u8 8), .lit (.int .u8 7), .lit (.int .u8 6)]
def laid_internal_strconv_uint64pow10 {H : Type} : DataW H := .agg [.lit (.int .u64 1), .lit (.int .u64 10), .lit (.int .u64 100), .lit (.int .u64 1000), .lit (.int .u64 10000), .lit (.int .u64 100000), .lit (.int .u64 1000000), .lit (.int .u64 10000000), .lit (.int .u64 100000000), .lit (.int .u64 1000000000), .lit (.int .u64 10000000000), .lit (.int .u64 100000000000), .lit (.int .u64 1000000000000), .lit (.int .u64 10000000000000), .lit (.int .u64 100000000000000), .lit (.int .u64 1000000000000000), .lit (.int .u64 10000000000000000), .lit (.int .u64 100000000000000000), .lit (.int .u64 1000000000000000000), .lit (.int .u64 10000000000000000000)]
def laid_strconv_ErrRange {H : Type} : DataW H := .iface "*errors.errorString" (.ptr (.agg [.lit (.string [118, 97, 108, 117, 101, 32, 111, 117, 116, 32, 111, 102, 32, 114, 97, 110, 103, 101])]))
def laid_strconv_ErrSyntax {H : Type} : DataW H := .iface "*errors.errorString" (.ptr (.agg [.lit (.string [105, 110, 118, 97, 108, 105, 100, 32, 115, 121, 110, 116, 97, 120])]))

/-- 'chandlerylaw04.SpanMeets': WHATEVER THE INPUT: true; the input reads as it did. -/
def spanMeetsSpec : ChangeSpec := { name := "spanMeets", fn := fun _ => fun
  | [d1, d2, d3] => { results := [.lit (.bool true)], args := [d1, d2, d3] }
  | _ => none }
def spanMeetsRow : OpenClaim := { program := "ytaibdghalhbpnaadoor", sum := "e9df1913b68fb50bdcdd86349687e30688f5da84a29aa48c0b2bef4aff5f24ac", func := "chandlery/chandlerylaw04.SpanMeets", spec := "spanMeets", inPlace := ["internal/bytealg.IndexByteString", "internal/bytealg.IndexString"], unfollowed := true, recurses := true, named := ["unicode/utf8.first", "unicode/utf8.acceptRanges", "chandlery/span.ops", "internal/bytealg.MaxLen"], apart := false, laid := [("unicode/utf8.acceptRanges", laid_unicode_utf8_acceptRanges), ("chandlery/span.ops", laid_chandlery_span_ops), ("unicode/utf8.first", laid_unicode_utf8_first)] }
def SpanMeetsSaid : Prop := spanMeetsRow.holds Tryd.pinned (OpenSpec.ofChange spanMeetsSpec)

/-- ITS FALSE NEIGHBOUR: 'it returns false'. Refute it at one input. -/
def spanMeetsWrong : ChangeSpec := { name := "spanMeets", fn := fun _ => fun
  | [d1, d2, d3] => { results := [.lit (.bool false)], args := [d1, d2, d3] }
  | _ => none }
def SpanMeetsWrongFalsely : Prop := spanMeetsRow.holds Tryd.pinned (OpenSpec.ofChange spanMeetsWrong)

/-- 'chandlerylaw04.SpanEither': WHATEVER THE INPUT: true; the input reads as it did. -/
def spanEitherSpec : ChangeSpec := { name := "spanEither", fn := fun _ => fun
  | [d1, d2, d3] => { results := [.lit (.bool true)], args := [d1, d2, d3] }
  | _ => none }
def spanEitherRow : OpenClaim := { program := "ytaibdghalhbpnaadoor", sum := "e9df1913b68fb50bdcdd86349687e30688f5da84a29aa48c0b2bef4aff5f24ac", func := "chandlery/chandlerylaw04.SpanEither", spec := "spanEither", inPlace := ["internal/bytealg.IndexByteString", "internal/bytealg.IndexString"], unfollowed := true, recurses := true, named := ["unicode/utf8.first", "unicode/utf8.acceptRanges", "chandlery/span.ops", "internal/bytealg.MaxLen"], apart := false, laid := [("unicode/utf8.acceptRanges", laid_unicode_utf8_acceptRanges), ("chandlery/span.ops", laid_chandlery_span_ops), ("unicode/utf8.first", laid_unicode_utf8_first)] }
def SpanEitherSaid : Prop := spanEitherRow.holds Tryd.pinned (OpenSpec.ofChange spanEitherSpec)

/-- ITS FALSE NEIGHBOUR: 'it returns false'. Refute it at one input. -/
def spanEitherWrong : ChangeSpec := { name := "spanEither", fn := fun _ => fun
  | [d1, d2, d3] => { results := [.lit (.bool false)], args := [d1, d2, d3] }
  | _ => none }
def SpanEitherWrongFalsely : Prop := spanEitherRow.holds Tryd.pinned (OpenSpec.ofChange spanEitherWrong)

/-- 'chandlerylaw04.SpanBoth': WHATEVER THE INPUT: true; the input reads as it did. -/
def spanBothSpec : ChangeSpec := { name := "spanBoth", fn := fun _ => fun
  | [d1, d2, d3] => { results := [.lit (.bool true)], args := [d1, d2, d3] }
  | _ => none }
def spanBothRow : OpenClaim := { program := "ytaibdghalhbpnaadoor", sum := "e9df1913b68fb50bdcdd86349687e30688f5da84a29aa48c0b2bef4aff5f24ac", func := "chandlery/chandlerylaw04.SpanBoth", spec := "spanBoth", inPlace := ["internal/bytealg.IndexByteString", "internal/bytealg.IndexString"], unfollowed := true, recurses := true, named := ["unicode/utf8.first", "unicode/utf8.acceptRanges", "chandlery/span.ops", "internal/bytealg.MaxLen"], apart := false, laid := [("unicode/utf8.acceptRanges", laid_unicode_utf8_acceptRanges), ("chandlery/span.ops", laid_chandlery_span_ops), ("unicode/utf8.first", laid_unicode_utf8_first)] }
def SpanBothSaid : Prop := spanBothRow.holds Tryd.pinned (OpenSpec.ofChange spanBothSpec)

/-- ITS FALSE NEIGHBOUR: 'it returns false'. Refute it at one input. -/
def spanBothWrong : ChangeSpec := { name := "spanBoth", fn := fun _ => fun
  | [d1, d2, d3] => { results := [.lit (.bool false)], args := [d1, d2, d3] }
  | _ => none }
def SpanBothWrongFalsely : Prop := spanBothRow.holds Tryd.pinned (OpenSpec.ofChange spanBothWrong)

/-- 'chandlerylaw04.SpanMore': WHATEVER THE INPUT: true; the input reads as it did. -/
def spanMoreSpec : ChangeSpec := { name := "spanMore", fn := fun _ => fun
  | [d1, d2, d3, d4] => { results := [.lit (.bool true)], args := [d1, d2, d3, d4] }
  | _ => none }
def spanMoreRow : OpenClaim := { program := "ytaibdghalhbpnaadoor", sum := "e9df1913b68fb50bdcdd86349687e30688f5da84a29aa48c0b2bef4aff5f24ac", func := "chandlery/chandlerylaw04.SpanMore", spec := "spanMore", inPlace := ["internal/bytealg.IndexByteString", "internal/bytealg.IndexString"], unfollowed := true, recurses := true, named := ["unicode/utf8.first", "unicode/utf8.acceptRanges", "chandlery/span.ops", "internal/bytealg.MaxLen"], apart := false, laid := [("unicode/utf8.acceptRanges", laid_unicode_utf8_acceptRanges), ("chandlery/span.ops", laid_chandlery_span_ops), ("unicode/utf8.first", laid_unicode_utf8_first)] }
def SpanMoreSaid : Prop := spanMoreRow.holds Tryd.pinned (OpenSpec.ofChange spanMoreSpec)

/-- ITS FALSE NEIGHBOUR: 'it returns false'. Refute it at one input. -/
def spanMoreWrong : ChangeSpec := { name := "spanMore", fn := fun _ => fun
  | [d1, d2, d3, d4] => { results := [.lit (.bool false)], args := [d1, d2, d3, d4] }
  | _ => none }
def SpanMoreWrongFalsely : Prop := spanMoreRow.holds Tryd.pinned (OpenSpec.ofChange spanMoreWrong)

/-- 'chandlerylaw04.SpanParted': WHATEVER THE INPUT: true; the input reads as it did. -/
def spanPartedSpec : ChangeSpec := { name := "spanParted", fn := fun _ => fun
  | [d1, d2] => { results := [.lit (.bool true)], args := [d1, d2] }
  | _ => none }
def spanPartedRow : OpenClaim := { program := "ytaibdghalhbpnaadoor", sum := "e9df1913b68fb50bdcdd86349687e30688f5da84a29aa48c0b2bef4aff5f24ac", func := "chandlery/chandlerylaw04.SpanParted", spec := "spanParted", inPlace := ["internal/bytealg.IndexByteString", "internal/bytealg.IndexString"], unfollowed := true, recurses := true, named := ["unicode/utf8.first", "unicode/utf8.acceptRanges", "chandlery/span.ops", "internal/bytealg.MaxLen"], apart := false, laid := [("unicode/utf8.acceptRanges", laid_unicode_utf8_acceptRanges), ("chandlery/span.ops", laid_chandlery_span_ops), ("unicode/utf8.first", laid_unicode_utf8_first)] }
def SpanPartedSaid : Prop := spanPartedRow.holds Tryd.pinned (OpenSpec.ofChange spanPartedSpec)

/-- ITS FALSE NEIGHBOUR: 'it returns false'. Refute it at one input. -/
def spanPartedWrong : ChangeSpec := { name := "spanParted", fn := fun _ => fun
  | [d1, d2] => { results := [.lit (.bool false)], args := [d1, d2] }
  | _ => none }
def SpanPartedWrongFalsely : Prop := spanPartedRow.holds Tryd.pinned (OpenSpec.ofChange spanPartedWrong)

/-- 'chandlerylaw04.SpanOps': WHATEVER THE INPUT: true; the input reads as it did. -/
def spanOpsSpec : ChangeSpec := { name := "spanOps", fn := fun _ => fun
  | [d1, d2] => { results := [.lit (.bool true)], args := [d1, d2] }
  | _ => none }
def spanOpsRow : OpenClaim := { program := "ytaibdghalhbpnaadoor", sum := "e9df1913b68fb50bdcdd86349687e30688f5da84a29aa48c0b2bef4aff5f24ac", func := "chandlery/chandlerylaw04.SpanOps", spec := "spanOps", inPlace := ["internal/bytealg.IndexByteString", "internal/bytealg.IndexString"], unfollowed := true, recurses := true, named := ["unicode/utf8.first", "unicode/utf8.acceptRanges", "chandlery/span.ops", "internal/bytealg.MaxLen"], apart := false, laid := [("unicode/utf8.acceptRanges", laid_unicode_utf8_acceptRanges), ("chandlery/span.ops", laid_chandlery_span_ops), ("unicode/utf8.first", laid_unicode_utf8_first)] }
def SpanOpsSaid : Prop := spanOpsRow.holds Tryd.pinned (OpenSpec.ofChange spanOpsSpec)

/-- ITS FALSE NEIGHBOUR: 'it returns false'. Refute it at one input. -/
def spanOpsWrong : ChangeSpec := { name := "spanOps", fn := fun _ => fun
  | [d1, d2] => { results := [.lit (.bool false)], args := [d1, d2] }
  | _ => none }
def SpanOpsWrongFalsely : Prop := spanOpsRow.holds Tryd.pinned (OpenSpec.ofChange spanOpsWrong)

/-- 'chandlerylaw04.SpanNames': WHATEVER THE INPUT: true; the input reads as it did. -/
def spanNamesSpec : ChangeSpec := { name := "spanNames", fn := fun _ => fun
  | [] => { results := [.lit (.bool true)], args := [] }
  | _ => none }
def spanNamesRow : OpenClaim := { program := "ytaibdghalhbpnaadoor", sum := "e9df1913b68fb50bdcdd86349687e30688f5da84a29aa48c0b2bef4aff5f24ac", func := "chandlery/chandlerylaw04.SpanNames", spec := "spanNames", inPlace := ["internal/bytealg.IndexByteString", "internal/bytealg.IndexString"], unfollowed := true, recurses := true, named := ["chandlery/span.ops", "unicode/utf8.first", "unicode/utf8.acceptRanges", "internal/bytealg.MaxLen"], apart := false, laid := [("unicode/utf8.acceptRanges", laid_unicode_utf8_acceptRanges), ("chandlery/span.ops", laid_chandlery_span_ops), ("unicode/utf8.first", laid_unicode_utf8_first)] }
def SpanNamesSaid : Prop := spanNamesRow.holds Tryd.pinned (OpenSpec.ofChange spanNamesSpec)

/-- ITS FALSE NEIGHBOUR: 'it returns false'. Refute it at one input. -/
def spanNamesWrong : ChangeSpec := { name := "spanNames", fn := fun _ => fun
  | [] => { results := [.lit (.bool false)], args := [] }
  | _ => none }
def SpanNamesWrongFalsely : Prop := spanNamesRow.holds Tryd.pinned (OpenSpec.ofChange spanNamesWrong)

/-- 'chandlerylaw02.VercmpTells': WHATEVER THE INPUT: true; the input reads as it did. -/
def vercmpTellsSpec : ChangeSpec := { name := "vercmpTells", fn := fun _ => fun
  | [d1, d2] => { results := [.lit (.bool true)], args := [d1, d2] }
  | _ => none }
def vercmpTellsRow : OpenClaim := { program := "ytaibdghalhbpnaadoor", sum := "e9df1913b68fb50bdcdd86349687e30688f5da84a29aa48c0b2bef4aff5f24ac", func := "chandlery/chandlerylaw02.VercmpTells", spec := "vercmpTells", inPlace := ["internal/bytealg.IndexByteString", "internal/bytealg.IndexString"], unfollowed := true, recurses := true, named := ["unicode/utf8.first", "unicode/utf8.acceptRanges", "internal/bytealg.MaxLen"], apart := false, laid := [("unicode/utf8.acceptRanges", laid_unicode_utf8_acceptRanges), ("unicode/utf8.first", laid_unicode_utf8_first)] }
def VercmpTellsSaid : Prop := vercmpTellsRow.holds Tryd.pinned (OpenSpec.ofChange vercmpTellsSpec)

/-- ITS FALSE NEIGHBOUR: 'it returns false'. Refute it at one input. -/
def vercmpTellsWrong : ChangeSpec := { name := "vercmpTells", fn := fun _ => fun
  | [d1, d2] => { results := [.lit (.bool false)], args := [d1, d2] }
  | _ => none }
def VercmpTellsWrongFalsely : Prop := vercmpTellsRow.holds Tryd.pinned (OpenSpec.ofChange vercmpTellsWrong)

/-- 'chandlerylaw02.VercmpSorts': WHATEVER THE INPUT: true; the input reads as it did. -/
def vercmpSortsSpec : ChangeSpec := { name := "vercmpSorts", fn := fun _ => fun
  | [d] => { results := [.lit (.bool true)], args := [d] }
  | _ => none }
def vercmpSortsRow : OpenClaim := { program := "ytaibdghalhbpnaadoor", sum := "e9df1913b68fb50bdcdd86349687e30688f5da84a29aa48c0b2bef4aff5f24ac", func := "chandlery/chandlerylaw02.VercmpSorts", spec := "vercmpSorts", inPlace := ["internal/bytealg.IndexByteString", "internal/bytealg.IndexString"], unfollowed := true, recurses := true, named := ["unicode/utf8.first", "unicode/utf8.acceptRanges", "internal/bytealg.MaxLen"], apart := false, laid := [("unicode/utf8.acceptRanges", laid_unicode_utf8_acceptRanges), ("unicode/utf8.first", laid_unicode_utf8_first)] }
def VercmpSortsSaid : Prop := vercmpSortsRow.holds Tryd.pinned (OpenSpec.ofChange vercmpSortsSpec)

/-- ITS FALSE NEIGHBOUR: 'it returns false'. Refute it at one input. -/
def vercmpSortsWrong : ChangeSpec := { name := "vercmpSorts", fn := fun _ => fun
  | [d] => { results := [.lit (.bool false)], args := [d] }
  | _ => none }
def VercmpSortsWrongFalsely : Prop := vercmpSortsRow.holds Tryd.pinned (OpenSpec.ofChange vercmpSortsWrong)

/-- 'chandlerylaw02.VercmpNames': WHATEVER THE INPUT: true; the input reads as it did. -/
def vercmpNamesSpec : ChangeSpec := { name := "vercmpNames", fn := fun _ => fun
  | [] => { results := [.lit (.bool true)], args := [] }
  | _ => none }
def vercmpNamesRow : OpenClaim := { program := "ytaibdghalhbpnaadoor", sum := "e9df1913b68fb50bdcdd86349687e30688f5da84a29aa48c0b2bef4aff5f24ac", func := "chandlery/chandlerylaw02.VercmpNames", spec := "vercmpNames", inPlace := ["internal/bytealg.IndexByteString", "internal/bytealg.IndexString"], unfollowed := true, recurses := true, named := ["unicode/utf8.first", "unicode/utf8.acceptRanges", "internal/bytealg.MaxLen"], apart := false, laid := [("unicode/utf8.acceptRanges", laid_unicode_utf8_acceptRanges), ("unicode/utf8.first", laid_unicode_utf8_first)] }
def VercmpNamesSaid : Prop := vercmpNamesRow.holds Tryd.pinned (OpenSpec.ofChange vercmpNamesSpec)

/-- ITS FALSE NEIGHBOUR: 'it returns false'. Refute it at one input. -/
def vercmpNamesWrong : ChangeSpec := { name := "vercmpNames", fn := fun _ => fun
  | [] => { results := [.lit (.bool false)], args := [] }
  | _ => none }
def VercmpNamesWrongFalsely : Prop := vercmpNamesRow.holds Tryd.pinned (OpenSpec.ofChange vercmpNamesWrong)

/-- 'chandlerylaw02.VercmpRow': WHATEVER THE INPUT: true; the input reads as it did. -/
def vercmpRowSpec : ChangeSpec := { name := "vercmpRow", fn := fun _ => fun
  | [d1, d2, d3] => { results := [.lit (.bool true)], args := [d1, d2, d3] }
  | _ => none }
def vercmpRowRow : OpenClaim := { program := "ytaibdghalhbpnaadoor", sum := "e9df1913b68fb50bdcdd86349687e30688f5da84a29aa48c0b2bef4aff5f24ac", func := "chandlery/chandlerylaw02.VercmpRow", spec := "vercmpRow", inPlace := ["internal/bytealg.IndexByteString", "internal/bytealg.IndexString"], unfollowed := true, recurses := true, named := ["unicode/utf8.first", "unicode/utf8.acceptRanges", "internal/bytealg.MaxLen"], apart := false, laid := [("unicode/utf8.acceptRanges", laid_unicode_utf8_acceptRanges), ("unicode/utf8.first", laid_unicode_utf8_first)] }
def VercmpRowSaid : Prop := vercmpRowRow.holds Tryd.pinned (OpenSpec.ofChange vercmpRowSpec)

/-- ITS FALSE NEIGHBOUR: 'it returns false'. Refute it at one input. -/
def vercmpRowWrong : ChangeSpec := { name := "vercmpRow", fn := fun _ => fun
  | [d1, d2, d3] => { results := [.lit (.bool false)], args := [d1, d2, d3] }
  | _ => none }
def VercmpRowWrongFalsely : Prop := vercmpRowRow.holds Tryd.pinned (OpenSpec.ofChange vercmpRowWrong)

/-- 'chandlerylaw02.VercmpBehind': WHATEVER THE INPUT: true; the input reads as it did. -/
def vercmpBehindSpec : ChangeSpec := { name := "vercmpBehind", fn := fun _ => fun
  | [d1, d2] => { results := [.lit (.bool true)], args := [d1, d2] }
  | _ => none }
def vercmpBehindRow : OpenClaim := { program := "ytaibdghalhbpnaadoor", sum := "e9df1913b68fb50bdcdd86349687e30688f5da84a29aa48c0b2bef4aff5f24ac", func := "chandlery/chandlerylaw02.VercmpBehind", spec := "vercmpBehind", inPlace := ["internal/bytealg.IndexByteString", "internal/bytealg.IndexString"], unfollowed := true, recurses := true, named := ["unicode/utf8.first", "unicode/utf8.acceptRanges", "internal/bytealg.MaxLen"], apart := false, laid := [("unicode/utf8.acceptRanges", laid_unicode_utf8_acceptRanges), ("unicode/utf8.first", laid_unicode_utf8_first)] }
def VercmpBehindSaid : Prop := vercmpBehindRow.holds Tryd.pinned (OpenSpec.ofChange vercmpBehindSpec)

/-- ITS FALSE NEIGHBOUR: 'it returns false'. Refute it at one input. -/
def vercmpBehindWrong : ChangeSpec := { name := "vercmpBehind", fn := fun _ => fun
  | [d1, d2] => { results := [.lit (.bool false)], args := [d1, d2] }
  | _ => none }
def VercmpBehindWrongFalsely : Prop := vercmpBehindRow.holds Tryd.pinned (OpenSpec.ofChange vercmpBehindWrong)

/-- 'chandlerylaw02.VercmpNothing': WHATEVER THE INPUT: true; the input reads as it did. -/
def vercmpNothingSpec : ChangeSpec := { name := "vercmpNothing", fn := fun _ => fun
  | [d1, d2, d3, d4] => { results := [.lit (.bool true)], args := [d1, d2, d3, d4] }
  | _ => none }
def vercmpNothingRow : OpenClaim := { program := "ytaibdghalhbpnaadoor", sum := "e9df1913b68fb50bdcdd86349687e30688f5da84a29aa48c0b2bef4aff5f24ac", func := "chandlery/chandlerylaw02.VercmpNothing", spec := "vercmpNothing", inPlace := ["internal/bytealg.IndexByteString", "internal/bytealg.IndexString"], unfollowed := true, recurses := true, named := ["unicode/utf8.first", "unicode/utf8.acceptRanges", "internal/bytealg.MaxLen"], apart := false, laid := [("unicode/utf8.acceptRanges", laid_unicode_utf8_acceptRanges), ("unicode/utf8.first", laid_unicode_utf8_first)] }
def VercmpNothingSaid : Prop := vercmpNothingRow.holds Tryd.pinned (OpenSpec.ofChange vercmpNothingSpec)

/-- ITS FALSE NEIGHBOUR: 'it returns false'. Refute it at one input. -/
def vercmpNothingWrong : ChangeSpec := { name := "vercmpNothing", fn := fun _ => fun
  | [d1, d2, d3, d4] => { results := [.lit (.bool false)], args := [d1, d2, d3, d4] }
  | _ => none }
def VercmpNothingWrongFalsely : Prop := vercmpNothingRow.holds Tryd.pinned (OpenSpec.ofChange vercmpNothingWrong)

/-- 'chandlerylaw02.VercmpAhead': WHATEVER THE INPUT: true; the input reads as it did. -/
def vercmpAheadSpec : ChangeSpec := { name := "vercmpAhead", fn := fun _ => fun
  | [d1, d2, d3] => { results := [.lit (.bool true)], args := [d1, d2, d3] }
  | _ => none }
def vercmpAheadRow : OpenClaim := { program := "ytaibdghalhbpnaadoor", sum := "e9df1913b68fb50bdcdd86349687e30688f5da84a29aa48c0b2bef4aff5f24ac", func := "chandlery/chandlerylaw02.VercmpAhead", spec := "vercmpAhead", inPlace := ["internal/bytealg.IndexByteString", "internal/bytealg.IndexString"], unfollowed := true, recurses := true, named := ["unicode/utf8.first", "unicode/utf8.acceptRanges", "internal/bytealg.MaxLen"], apart := false, laid := [("unicode/utf8.acceptRanges", laid_unicode_utf8_acceptRanges), ("unicode/utf8.first", laid_unicode_utf8_first)] }
def VercmpAheadSaid : Prop := vercmpAheadRow.holds Tryd.pinned (OpenSpec.ofChange vercmpAheadSpec)

/-- ITS FALSE NEIGHBOUR: 'it returns false'. Refute it at one input. -/
def vercmpAheadWrong : ChangeSpec := { name := "vercmpAhead", fn := fun _ => fun
  | [d1, d2, d3] => { results := [.lit (.bool false)], args := [d1, d2, d3] }
  | _ => none }
def VercmpAheadWrongFalsely : Prop := vercmpAheadRow.holds Tryd.pinned (OpenSpec.ofChange vercmpAheadWrong)

/-- 'chandlerylaw02.VercmpSorted': WHATEVER THE INPUT: true; the input reads as it did. -/
def vercmpSortedSpec : ChangeSpec := { name := "vercmpSorted", fn := fun _ => fun
  | [d] => { results := [.lit (.bool true)], args := [d] }
  | _ => none }
def vercmpSortedRow : OpenClaim := { program := "ytaibdghalhbpnaadoor", sum := "e9df1913b68fb50bdcdd86349687e30688f5da84a29aa48c0b2bef4aff5f24ac", func := "chandlery/chandlerylaw02.VercmpSorted", spec := "vercmpSorted", inPlace := ["internal/bytealg.IndexByteString", "internal/bytealg.IndexString"], unfollowed := true, recurses := true, named := ["unicode/utf8.first", "unicode/utf8.acceptRanges", "internal/bytealg.MaxLen"], apart := false, laid := [("unicode/utf8.acceptRanges", laid_unicode_utf8_acceptRanges), ("unicode/utf8.first", laid_unicode_utf8_first)] }
def VercmpSortedSaid : Prop := vercmpSortedRow.holds Tryd.pinned (OpenSpec.ofChange vercmpSortedSpec)

/-- ITS FALSE NEIGHBOUR: 'it returns false'. Refute it at one input. -/
def vercmpSortedWrong : ChangeSpec := { name := "vercmpSorted", fn := fun _ => fun
  | [d] => { results := [.lit (.bool false)], args := [d] }
  | _ => none }
def VercmpSortedWrongFalsely : Prop := vercmpSortedRow.holds Tryd.pinned (OpenSpec.ofChange vercmpSortedWrong)

/-- 'chandlerylaw03.EvrNames': WHATEVER THE INPUT: true; the input reads as it did. -/
def evrNamesSpec : ChangeSpec := { name := "evrNames", fn := fun _ => fun
  | [] => { results := [.lit (.bool true)], args := [] }
  | _ => none }
def evrNamesRow : OpenClaim := { program := "ytaibdghalhbpnaadoor", sum := "e9df1913b68fb50bdcdd86349687e30688f5da84a29aa48c0b2bef4aff5f24ac", func := "chandlery/chandlerylaw03.EvrNames", spec := "evrNames", inPlace := ["internal/bytealg.IndexByteString", "internal/bytealg.IndexString"], unfollowed := true, recurses := true, named := ["internal/bytealg.MaxLen", "strconv.ErrSyntax", "strconv.ErrRange", "internal/strconv.uint64pow10", "math/bits.deBruijn32tab", "math/bits.deBruijn64tab", "unicode/utf8.first", "unicode/utf8.acceptRanges"], apart := false, laid := [("math/bits.deBruijn32tab", laid_math_bits_deBruijn32tab), ("math/bits.deBruijn64tab", laid_math_bits_deBruijn64tab), ("internal/strconv.uint64pow10", laid_internal_strconv_uint64pow10), ("unicode/utf8.acceptRanges", laid_unicode_utf8_acceptRanges), ("strconv.ErrRange", laid_strconv_ErrRange), ("strconv.ErrSyntax", laid_strconv_ErrSyntax), ("unicode/utf8.first", laid_unicode_utf8_first)] }
def EvrNamesSaid : Prop := evrNamesRow.holds Tryd.pinned (OpenSpec.ofChange evrNamesSpec)

/-- ITS FALSE NEIGHBOUR: 'it returns false'. Refute it at one input. -/
def evrNamesWrong : ChangeSpec := { name := "evrNames", fn := fun _ => fun
  | [] => { results := [.lit (.bool false)], args := [] }
  | _ => none }
def EvrNamesWrongFalsely : Prop := evrNamesRow.holds Tryd.pinned (OpenSpec.ofChange evrNamesWrong)

/-- 'chandlerylaw03.EvrTells': WHATEVER THE INPUT: true; the input reads as it did. -/
def evrTellsSpec : ChangeSpec := { name := "evrTells", fn := fun _ => fun
  | [d1, d2, d3] => { results := [.lit (.bool true)], args := [d1, d2, d3] }
  | _ => none }
def evrTellsRow : OpenClaim := { program := "ytaibdghalhbpnaadoor", sum := "e9df1913b68fb50bdcdd86349687e30688f5da84a29aa48c0b2bef4aff5f24ac", func := "chandlery/chandlerylaw03.EvrTells", spec := "evrTells", inPlace := ["internal/bytealg.IndexByteString", "internal/bytealg.IndexString"], unfollowed := true, recurses := true, named := ["internal/strconv.uint64pow10", "math/bits.deBruijn32tab", "math/bits.deBruijn64tab", "internal/bytealg.MaxLen", "strconv.ErrSyntax", "strconv.ErrRange", "unicode/utf8.first", "unicode/utf8.acceptRanges"], apart := false, laid := [("math/bits.deBruijn32tab", laid_math_bits_deBruijn32tab), ("math/bits.deBruijn64tab", laid_math_bits_deBruijn64tab), ("internal/strconv.uint64pow10", laid_internal_strconv_uint64pow10), ("unicode/utf8.acceptRanges", laid_unicode_utf8_acceptRanges), ("strconv.ErrRange", laid_strconv_ErrRange), ("strconv.ErrSyntax", laid_strconv_ErrSyntax), ("unicode/utf8.first", laid_unicode_utf8_first)] }
def EvrTellsSaid : Prop := evrTellsRow.holds Tryd.pinned (OpenSpec.ofChange evrTellsSpec)

/-- ITS FALSE NEIGHBOUR: 'it returns false'. Refute it at one input. -/
def evrTellsWrong : ChangeSpec := { name := "evrTells", fn := fun _ => fun
  | [d1, d2, d3] => { results := [.lit (.bool false)], args := [d1, d2, d3] }
  | _ => none }
def EvrTellsWrongFalsely : Prop := evrTellsRow.holds Tryd.pinned (OpenSpec.ofChange evrTellsWrong)

/-- 'chandlerylaw03.EvrBack': WHATEVER THE INPUT: true; the input reads as it did. -/
def evrBackSpec : ChangeSpec := { name := "evrBack", fn := fun _ => fun
  | [d1, d2] => { results := [.lit (.bool true)], args := [d1, d2] }
  | _ => none }
def evrBackRow : OpenClaim := { program := "ytaibdghalhbpnaadoor", sum := "e9df1913b68fb50bdcdd86349687e30688f5da84a29aa48c0b2bef4aff5f24ac", func := "chandlery/chandlerylaw03.EvrBack", spec := "evrBack", inPlace := ["internal/bytealg.IndexByteString", "internal/bytealg.IndexString"], unfollowed := true, recurses := true, named := ["internal/bytealg.MaxLen", "strconv.ErrSyntax", "strconv.ErrRange", "internal/strconv.uint64pow10", "math/bits.deBruijn32tab", "math/bits.deBruijn64tab", "unicode/utf8.first", "unicode/utf8.acceptRanges"], apart := false, laid := [("math/bits.deBruijn32tab", laid_math_bits_deBruijn32tab), ("math/bits.deBruijn64tab", laid_math_bits_deBruijn64tab), ("internal/strconv.uint64pow10", laid_internal_strconv_uint64pow10), ("unicode/utf8.acceptRanges", laid_unicode_utf8_acceptRanges), ("strconv.ErrRange", laid_strconv_ErrRange), ("strconv.ErrSyntax", laid_strconv_ErrSyntax), ("unicode/utf8.first", laid_unicode_utf8_first)] }
def EvrBackSaid : Prop := evrBackRow.holds Tryd.pinned (OpenSpec.ofChange evrBackSpec)

/-- ITS FALSE NEIGHBOUR: 'it returns false'. Refute it at one input. -/
def evrBackWrong : ChangeSpec := { name := "evrBack", fn := fun _ => fun
  | [d1, d2] => { results := [.lit (.bool false)], args := [d1, d2] }
  | _ => none }
def EvrBackWrongFalsely : Prop := evrBackRow.holds Tryd.pinned (OpenSpec.ofChange evrBackWrong)

/-- 'chandlerylaw03.EvrOrder': WHATEVER THE INPUT: true; the input reads as it did. -/
def evrOrderSpec : ChangeSpec := { name := "evrOrder", fn := fun _ => fun
  | [d1, d2, d3] => { results := [.lit (.bool true)], args := [d1, d2, d3] }
  | _ => none }
def evrOrderRow : OpenClaim := { program := "ytaibdghalhbpnaadoor", sum := "e9df1913b68fb50bdcdd86349687e30688f5da84a29aa48c0b2bef4aff5f24ac", func := "chandlery/chandlerylaw03.EvrOrder", spec := "evrOrder", inPlace := ["internal/bytealg.IndexByteString", "internal/bytealg.IndexString"], unfollowed := true, recurses := true, named := ["internal/bytealg.MaxLen", "strconv.ErrSyntax", "strconv.ErrRange", "internal/strconv.uint64pow10", "math/bits.deBruijn32tab", "math/bits.deBruijn64tab", "unicode/utf8.first", "unicode/utf8.acceptRanges"], apart := false, laid := [("math/bits.deBruijn32tab", laid_math_bits_deBruijn32tab), ("math/bits.deBruijn64tab", laid_math_bits_deBruijn64tab), ("internal/strconv.uint64pow10", laid_internal_strconv_uint64pow10), ("unicode/utf8.acceptRanges", laid_unicode_utf8_acceptRanges), ("strconv.ErrRange", laid_strconv_ErrRange), ("strconv.ErrSyntax", laid_strconv_ErrSyntax), ("unicode/utf8.first", laid_unicode_utf8_first)] }
def EvrOrderSaid : Prop := evrOrderRow.holds Tryd.pinned (OpenSpec.ofChange evrOrderSpec)

/-- ITS FALSE NEIGHBOUR: 'it returns false'. Refute it at one input. -/
def evrOrderWrong : ChangeSpec := { name := "evrOrder", fn := fun _ => fun
  | [d1, d2, d3] => { results := [.lit (.bool false)], args := [d1, d2, d3] }
  | _ => none }
def EvrOrderWrongFalsely : Prop := evrOrderRow.holds Tryd.pinned (OpenSpec.ofChange evrOrderWrong)

/-- 'chandlerylaw03.EvrParts': WHATEVER THE INPUT: true; the input reads as it did. -/
def evrPartsSpec : ChangeSpec := { name := "evrParts", fn := fun _ => fun
  | [d1, d2, d3] => { results := [.lit (.bool true)], args := [d1, d2, d3] }
  | _ => none }
def evrPartsRow : OpenClaim := { program := "ytaibdghalhbpnaadoor", sum := "e9df1913b68fb50bdcdd86349687e30688f5da84a29aa48c0b2bef4aff5f24ac", func := "chandlery/chandlerylaw03.EvrParts", spec := "evrParts", inPlace := ["internal/bytealg.IndexByteString", "internal/bytealg.IndexString"], unfollowed := true, recurses := true, named := ["internal/bytealg.MaxLen", "strconv.ErrSyntax", "strconv.ErrRange", "internal/strconv.uint64pow10", "math/bits.deBruijn32tab", "math/bits.deBruijn64tab", "unicode/utf8.first", "unicode/utf8.acceptRanges"], apart := false, laid := [("math/bits.deBruijn32tab", laid_math_bits_deBruijn32tab), ("math/bits.deBruijn64tab", laid_math_bits_deBruijn64tab), ("internal/strconv.uint64pow10", laid_internal_strconv_uint64pow10), ("unicode/utf8.acceptRanges", laid_unicode_utf8_acceptRanges), ("strconv.ErrRange", laid_strconv_ErrRange), ("strconv.ErrSyntax", laid_strconv_ErrSyntax), ("unicode/utf8.first", laid_unicode_utf8_first)] }
def EvrPartsSaid : Prop := evrPartsRow.holds Tryd.pinned (OpenSpec.ofChange evrPartsSpec)

/-- ITS FALSE NEIGHBOUR: 'it returns false'. Refute it at one input. -/
def evrPartsWrong : ChangeSpec := { name := "evrParts", fn := fun _ => fun
  | [d1, d2, d3] => { results := [.lit (.bool false)], args := [d1, d2, d3] }
  | _ => none }
def EvrPartsWrongFalsely : Prop := evrPartsRow.holds Tryd.pinned (OpenSpec.ofChange evrPartsWrong)

/- THE SECOND FORM. 'bulk': how many values and letters a reading holds, each counted each time it is reached (what is shared counts as often as it is met; a slice's spare places count too). A statement '..UptoSaid' is the law's where the arguments, and the package variables that the reading takes, are together of bulk at most 1048576: NARROWER than '..Said'. Prove '..Said' where nothing that the law and all that it calls make is longer than what came in: it says more and counts as full. Else prove '..UptoSaid'. A law counts once. -/
mutual
def uptoBulk {H : Type} : DataW H → Nat
  | .lit (.string bytes) => bytes.length + 1
  | .lit _ => 1
  | .nil => 1
  | .ptr d => uptoBulk d + 1
  | .slice elems spare => uptoBulkAll elems + uptoBulkAll spare + 1
  | .agg parts => uptoBulkAll parts + 1
  | .iface _ d => uptoBulk d + 1
  | .map entries => uptoBulkEntries entries + 1
  | .held _ => 1
def uptoBulkAll {H : Type} : List (DataW H) → Nat
  | [] => 0
  | d :: r => uptoBulk d + uptoBulkAll r
def uptoBulkEntries {H : Type} : List (Lit × DataW H) → Nat
  | [] => 0
  | x :: r => uptoBulkEntry x + uptoBulkEntries r
def uptoBulkEntry {H : Type} : Lit × DataW H → Nat
  | (.string bytes, d) => bytes.length + uptoBulk d + 1
  | (_, d) => uptoBulk d + 1
 end
def uptoSmall : (H : Type) → List (DataW H) → Bool := fun _ ds => decide (uptoBulkAll ds ≤ 1048576)
def OpenSpec.upto (s : _root_.Go.ChangeSpec) : _root_.Go.OpenSpec := { _root_.Go.OpenSpec.ofChange s with cond := some uptoSmall }

/-- 'chandlerylaw04.SpanMeets', WHERE WHAT IT READS IS OF BULK AT MOST 1048576: true; the input reads as it did. -/
def spanMeetsUptoRow : OpenClaim := { program := "ytaibdghalhbpnaadoor", sum := "e9df1913b68fb50bdcdd86349687e30688f5da84a29aa48c0b2bef4aff5f24ac", func := "chandlery/chandlerylaw04.SpanMeets", spec := "spanMeets", inPlace := ["internal/bytealg.IndexByteString", "internal/bytealg.IndexString"], unfollowed := true, recurses := true, named := ["unicode/utf8.first", "unicode/utf8.acceptRanges", "chandlery/span.ops", "internal/bytealg.MaxLen"], apart := false, laid := [("unicode/utf8.acceptRanges", laid_unicode_utf8_acceptRanges), ("chandlery/span.ops", laid_chandlery_span_ops), ("unicode/utf8.first", laid_unicode_utf8_first)], narrowed := true }
def SpanMeetsUptoSaid : Prop := spanMeetsUptoRow.holds Tryd.pinned (OpenSpec.upto spanMeetsSpec)

/-- 'chandlerylaw04.SpanEither', WHERE WHAT IT READS IS OF BULK AT MOST 1048576: true; the input reads as it did. -/
def spanEitherUptoRow : OpenClaim := { program := "ytaibdghalhbpnaadoor", sum := "e9df1913b68fb50bdcdd86349687e30688f5da84a29aa48c0b2bef4aff5f24ac", func := "chandlery/chandlerylaw04.SpanEither", spec := "spanEither", inPlace := ["internal/bytealg.IndexByteString", "internal/bytealg.IndexString"], unfollowed := true, recurses := true, named := ["unicode/utf8.first", "unicode/utf8.acceptRanges", "chandlery/span.ops", "internal/bytealg.MaxLen"], apart := false, laid := [("unicode/utf8.acceptRanges", laid_unicode_utf8_acceptRanges), ("chandlery/span.ops", laid_chandlery_span_ops), ("unicode/utf8.first", laid_unicode_utf8_first)], narrowed := true }
def SpanEitherUptoSaid : Prop := spanEitherUptoRow.holds Tryd.pinned (OpenSpec.upto spanEitherSpec)

/-- 'chandlerylaw04.SpanBoth', WHERE WHAT IT READS IS OF BULK AT MOST 1048576: true; the input reads as it did. -/
def spanBothUptoRow : OpenClaim := { program := "ytaibdghalhbpnaadoor", sum := "e9df1913b68fb50bdcdd86349687e30688f5da84a29aa48c0b2bef4aff5f24ac", func := "chandlery/chandlerylaw04.SpanBoth", spec := "spanBoth", inPlace := ["internal/bytealg.IndexByteString", "internal/bytealg.IndexString"], unfollowed := true, recurses := true, named := ["unicode/utf8.first", "unicode/utf8.acceptRanges", "chandlery/span.ops", "internal/bytealg.MaxLen"], apart := false, laid := [("unicode/utf8.acceptRanges", laid_unicode_utf8_acceptRanges), ("chandlery/span.ops", laid_chandlery_span_ops), ("unicode/utf8.first", laid_unicode_utf8_first)], narrowed := true }
def SpanBothUptoSaid : Prop := spanBothUptoRow.holds Tryd.pinned (OpenSpec.upto spanBothSpec)

/-- 'chandlerylaw04.SpanMore', WHERE WHAT IT READS IS OF BULK AT MOST 1048576: true; the input reads as it did. -/
def spanMoreUptoRow : OpenClaim := { program := "ytaibdghalhbpnaadoor", sum := "e9df1913b68fb50bdcdd86349687e30688f5da84a29aa48c0b2bef4aff5f24ac", func := "chandlery/chandlerylaw04.SpanMore", spec := "spanMore", inPlace := ["internal/bytealg.IndexByteString", "internal/bytealg.IndexString"], unfollowed := true, recurses := true, named := ["unicode/utf8.first", "unicode/utf8.acceptRanges", "chandlery/span.ops", "internal/bytealg.MaxLen"], apart := false, laid := [("unicode/utf8.acceptRanges", laid_unicode_utf8_acceptRanges), ("chandlery/span.ops", laid_chandlery_span_ops), ("unicode/utf8.first", laid_unicode_utf8_first)], narrowed := true }
def SpanMoreUptoSaid : Prop := spanMoreUptoRow.holds Tryd.pinned (OpenSpec.upto spanMoreSpec)

/-- 'chandlerylaw04.SpanParted', WHERE WHAT IT READS IS OF BULK AT MOST 1048576: true; the input reads as it did. -/
def spanPartedUptoRow : OpenClaim := { program := "ytaibdghalhbpnaadoor", sum := "e9df1913b68fb50bdcdd86349687e30688f5da84a29aa48c0b2bef4aff5f24ac", func := "chandlery/chandlerylaw04.SpanParted", spec := "spanParted", inPlace := ["internal/bytealg.IndexByteString", "internal/bytealg.IndexString"], unfollowed := true, recurses := true, named := ["unicode/utf8.first", "unicode/utf8.acceptRanges", "chandlery/span.ops", "internal/bytealg.MaxLen"], apart := false, laid := [("unicode/utf8.acceptRanges", laid_unicode_utf8_acceptRanges), ("chandlery/span.ops", laid_chandlery_span_ops), ("unicode/utf8.first", laid_unicode_utf8_first)], narrowed := true }
def SpanPartedUptoSaid : Prop := spanPartedUptoRow.holds Tryd.pinned (OpenSpec.upto spanPartedSpec)

/-- 'chandlerylaw04.SpanOps', WHERE WHAT IT READS IS OF BULK AT MOST 1048576: true; the input reads as it did. -/
def spanOpsUptoRow : OpenClaim := { program := "ytaibdghalhbpnaadoor", sum := "e9df1913b68fb50bdcdd86349687e30688f5da84a29aa48c0b2bef4aff5f24ac", func := "chandlery/chandlerylaw04.SpanOps", spec := "spanOps", inPlace := ["internal/bytealg.IndexByteString", "internal/bytealg.IndexString"], unfollowed := true, recurses := true, named := ["unicode/utf8.first", "unicode/utf8.acceptRanges", "chandlery/span.ops", "internal/bytealg.MaxLen"], apart := false, laid := [("unicode/utf8.acceptRanges", laid_unicode_utf8_acceptRanges), ("chandlery/span.ops", laid_chandlery_span_ops), ("unicode/utf8.first", laid_unicode_utf8_first)], narrowed := true }
def SpanOpsUptoSaid : Prop := spanOpsUptoRow.holds Tryd.pinned (OpenSpec.upto spanOpsSpec)

/-- 'chandlerylaw04.SpanNames', WHERE WHAT IT READS IS OF BULK AT MOST 1048576: true; the input reads as it did. -/
def spanNamesUptoRow : OpenClaim := { program := "ytaibdghalhbpnaadoor", sum := "e9df1913b68fb50bdcdd86349687e30688f5da84a29aa48c0b2bef4aff5f24ac", func := "chandlery/chandlerylaw04.SpanNames", spec := "spanNames", inPlace := ["internal/bytealg.IndexByteString", "internal/bytealg.IndexString"], unfollowed := true, recurses := true, named := ["chandlery/span.ops", "unicode/utf8.first", "unicode/utf8.acceptRanges", "internal/bytealg.MaxLen"], apart := false, laid := [("unicode/utf8.acceptRanges", laid_unicode_utf8_acceptRanges), ("chandlery/span.ops", laid_chandlery_span_ops), ("unicode/utf8.first", laid_unicode_utf8_first)], narrowed := true }
def SpanNamesUptoSaid : Prop := spanNamesUptoRow.holds Tryd.pinned (OpenSpec.upto spanNamesSpec)

/-- 'chandlerylaw02.VercmpTells', WHERE WHAT IT READS IS OF BULK AT MOST 1048576: true; the input reads as it did. -/
def vercmpTellsUptoRow : OpenClaim := { program := "ytaibdghalhbpnaadoor", sum := "e9df1913b68fb50bdcdd86349687e30688f5da84a29aa48c0b2bef4aff5f24ac", func := "chandlery/chandlerylaw02.VercmpTells", spec := "vercmpTells", inPlace := ["internal/bytealg.IndexByteString", "internal/bytealg.IndexString"], unfollowed := true, recurses := true, named := ["unicode/utf8.first", "unicode/utf8.acceptRanges", "internal/bytealg.MaxLen"], apart := false, laid := [("unicode/utf8.acceptRanges", laid_unicode_utf8_acceptRanges), ("unicode/utf8.first", laid_unicode_utf8_first)], narrowed := true }
def VercmpTellsUptoSaid : Prop := vercmpTellsUptoRow.holds Tryd.pinned (OpenSpec.upto vercmpTellsSpec)

/-- 'chandlerylaw02.VercmpSorts', WHERE WHAT IT READS IS OF BULK AT MOST 1048576: true; the input reads as it did. -/
def vercmpSortsUptoRow : OpenClaim := { program := "ytaibdghalhbpnaadoor", sum := "e9df1913b68fb50bdcdd86349687e30688f5da84a29aa48c0b2bef4aff5f24ac", func := "chandlery/chandlerylaw02.VercmpSorts", spec := "vercmpSorts", inPlace := ["internal/bytealg.IndexByteString", "internal/bytealg.IndexString"], unfollowed := true, recurses := true, named := ["unicode/utf8.first", "unicode/utf8.acceptRanges", "internal/bytealg.MaxLen"], apart := false, laid := [("unicode/utf8.acceptRanges", laid_unicode_utf8_acceptRanges), ("unicode/utf8.first", laid_unicode_utf8_first)], narrowed := true }
def VercmpSortsUptoSaid : Prop := vercmpSortsUptoRow.holds Tryd.pinned (OpenSpec.upto vercmpSortsSpec)

/-- 'chandlerylaw02.VercmpNames', WHERE WHAT IT READS IS OF BULK AT MOST 1048576: true; the input reads as it did. -/
def vercmpNamesUptoRow : OpenClaim := { program := "ytaibdghalhbpnaadoor", sum := "e9df1913b68fb50bdcdd86349687e30688f5da84a29aa48c0b2bef4aff5f24ac", func := "chandlery/chandlerylaw02.VercmpNames", spec := "vercmpNames", inPlace := ["internal/bytealg.IndexByteString", "internal/bytealg.IndexString"], unfollowed := true, recurses := true, named := ["unicode/utf8.first", "unicode/utf8.acceptRanges", "internal/bytealg.MaxLen"], apart := false, laid := [("unicode/utf8.acceptRanges", laid_unicode_utf8_acceptRanges), ("unicode/utf8.first", laid_unicode_utf8_first)], narrowed := true }
def VercmpNamesUptoSaid : Prop := vercmpNamesUptoRow.holds Tryd.pinned (OpenSpec.upto vercmpNamesSpec)

/-- 'chandlerylaw02.VercmpRow', WHERE WHAT IT READS IS OF BULK AT MOST 1048576: true; the input reads as it did. -/
def vercmpRowUptoRow : OpenClaim := { program := "ytaibdghalhbpnaadoor", sum := "e9df1913b68fb50bdcdd86349687e30688f5da84a29aa48c0b2bef4aff5f24ac", func := "chandlery/chandlerylaw02.VercmpRow", spec := "vercmpRow", inPlace := ["internal/bytealg.IndexByteString", "internal/bytealg.IndexString"], unfollowed := true, recurses := true, named := ["unicode/utf8.first", "unicode/utf8.acceptRanges", "internal/bytealg.MaxLen"], apart := false, laid := [("unicode/utf8.acceptRanges", laid_unicode_utf8_acceptRanges), ("unicode/utf8.first", laid_unicode_utf8_first)], narrowed := true }
def VercmpRowUptoSaid : Prop := vercmpRowUptoRow.holds Tryd.pinned (OpenSpec.upto vercmpRowSpec)

/-- 'chandlerylaw02.VercmpBehind', WHERE WHAT IT READS IS OF BULK AT MOST 1048576: true; the input reads as it did. -/
def vercmpBehindUptoRow : OpenClaim := { program := "ytaibdghalhbpnaadoor", sum := "e9df1913b68fb50bdcdd86349687e30688f5da84a29aa48c0b2bef4aff5f24ac", func := "chandlery/chandlerylaw02.VercmpBehind", spec := "vercmpBehind", inPlace := ["internal/bytealg.IndexByteString", "internal/bytealg.IndexString"], unfollowed := true, recurses := true, named := ["unicode/utf8.first", "unicode/utf8.acceptRanges", "internal/bytealg.MaxLen"], apart := false, laid := [("unicode/utf8.acceptRanges", laid_unicode_utf8_acceptRanges), ("unicode/utf8.first", laid_unicode_utf8_first)], narrowed := true }
def VercmpBehindUptoSaid : Prop := vercmpBehindUptoRow.holds Tryd.pinned (OpenSpec.upto vercmpBehindSpec)

/-- 'chandlerylaw02.VercmpNothing', WHERE WHAT IT READS IS OF BULK AT MOST 1048576: true; the input reads as it did. -/
def vercmpNothingUptoRow : OpenClaim := { program := "ytaibdghalhbpnaadoor", sum := "e9df1913b68fb50bdcdd86349687e30688f5da84a29aa48c0b2bef4aff5f24ac", func := "chandlery/chandlerylaw02.VercmpNothing", spec := "vercmpNothing", inPlace := ["internal/bytealg.IndexByteString", "internal/bytealg.IndexString"], unfollowed := true, recurses := true, named := ["unicode/utf8.first", "unicode/utf8.acceptRanges", "internal/bytealg.MaxLen"], apart := false, laid := [("unicode/utf8.acceptRanges", laid_unicode_utf8_acceptRanges), ("unicode/utf8.first", laid_unicode_utf8_first)], narrowed := true }
def VercmpNothingUptoSaid : Prop := vercmpNothingUptoRow.holds Tryd.pinned (OpenSpec.upto vercmpNothingSpec)

/-- 'chandlerylaw02.VercmpAhead', WHERE WHAT IT READS IS OF BULK AT MOST 1048576: true; the input reads as it did. -/
def vercmpAheadUptoRow : OpenClaim := { program := "ytaibdghalhbpnaadoor", sum := "e9df1913b68fb50bdcdd86349687e30688f5da84a29aa48c0b2bef4aff5f24ac", func := "chandlery/chandlerylaw02.VercmpAhead", spec := "vercmpAhead", inPlace := ["internal/bytealg.IndexByteString", "internal/bytealg.IndexString"], unfollowed := true, recurses := true, named := ["unicode/utf8.first", "unicode/utf8.acceptRanges", "internal/bytealg.MaxLen"], apart := false, laid := [("unicode/utf8.acceptRanges", laid_unicode_utf8_acceptRanges), ("unicode/utf8.first", laid_unicode_utf8_first)], narrowed := true }
def VercmpAheadUptoSaid : Prop := vercmpAheadUptoRow.holds Tryd.pinned (OpenSpec.upto vercmpAheadSpec)

/-- 'chandlerylaw02.VercmpSorted', WHERE WHAT IT READS IS OF BULK AT MOST 1048576: true; the input reads as it did. -/
def vercmpSortedUptoRow : OpenClaim := { program := "ytaibdghalhbpnaadoor", sum := "e9df1913b68fb50bdcdd86349687e30688f5da84a29aa48c0b2bef4aff5f24ac", func := "chandlery/chandlerylaw02.VercmpSorted", spec := "vercmpSorted", inPlace := ["internal/bytealg.IndexByteString", "internal/bytealg.IndexString"], unfollowed := true, recurses := true, named := ["unicode/utf8.first", "unicode/utf8.acceptRanges", "internal/bytealg.MaxLen"], apart := false, laid := [("unicode/utf8.acceptRanges", laid_unicode_utf8_acceptRanges), ("unicode/utf8.first", laid_unicode_utf8_first)], narrowed := true }
def VercmpSortedUptoSaid : Prop := vercmpSortedUptoRow.holds Tryd.pinned (OpenSpec.upto vercmpSortedSpec)

/-- 'chandlerylaw03.EvrNames', WHERE WHAT IT READS IS OF BULK AT MOST 1048576: true; the input reads as it did. -/
def evrNamesUptoRow : OpenClaim := { program := "ytaibdghalhbpnaadoor", sum := "e9df1913b68fb50bdcdd86349687e30688f5da84a29aa48c0b2bef4aff5f24ac", func := "chandlery/chandlerylaw03.EvrNames", spec := "evrNames", inPlace := ["internal/bytealg.IndexByteString", "internal/bytealg.IndexString"], unfollowed := true, recurses := true, named := ["internal/bytealg.MaxLen", "strconv.ErrSyntax", "strconv.ErrRange", "internal/strconv.uint64pow10", "math/bits.deBruijn32tab", "math/bits.deBruijn64tab", "unicode/utf8.first", "unicode/utf8.acceptRanges"], apart := false, laid := [("math/bits.deBruijn32tab", laid_math_bits_deBruijn32tab), ("math/bits.deBruijn64tab", laid_math_bits_deBruijn64tab), ("internal/strconv.uint64pow10", laid_internal_strconv_uint64pow10), ("unicode/utf8.acceptRanges", laid_unicode_utf8_acceptRanges), ("strconv.ErrRange", laid_strconv_ErrRange), ("strconv.ErrSyntax", laid_strconv_ErrSyntax), ("unicode/utf8.first", laid_unicode_utf8_first)], narrowed := true }
def EvrNamesUptoSaid : Prop := evrNamesUptoRow.holds Tryd.pinned (OpenSpec.upto evrNamesSpec)

/-- 'chandlerylaw03.EvrTells', WHERE WHAT IT READS IS OF BULK AT MOST 1048576: true; the input reads as it did. -/
def evrTellsUptoRow : OpenClaim := { program := "ytaibdghalhbpnaadoor", sum := "e9df1913b68fb50bdcdd86349687e30688f5da84a29aa48c0b2bef4aff5f24ac", func := "chandlery/chandlerylaw03.EvrTells", spec := "evrTells", inPlace := ["internal/bytealg.IndexByteString", "internal/bytealg.IndexString"], unfollowed := true, recurses := true, named := ["internal/strconv.uint64pow10", "math/bits.deBruijn32tab", "math/bits.deBruijn64tab", "internal/bytealg.MaxLen", "strconv.ErrSyntax", "strconv.ErrRange", "unicode/utf8.first", "unicode/utf8.acceptRanges"], apart := false, laid := [("math/bits.deBruijn32tab", laid_math_bits_deBruijn32tab), ("math/bits.deBruijn64tab", laid_math_bits_deBruijn64tab), ("internal/strconv.uint64pow10", laid_internal_strconv_uint64pow10), ("unicode/utf8.acceptRanges", laid_unicode_utf8_acceptRanges), ("strconv.ErrRange", laid_strconv_ErrRange), ("strconv.ErrSyntax", laid_strconv_ErrSyntax), ("unicode/utf8.first", laid_unicode_utf8_first)], narrowed := true }
def EvrTellsUptoSaid : Prop := evrTellsUptoRow.holds Tryd.pinned (OpenSpec.upto evrTellsSpec)

/-- 'chandlerylaw03.EvrBack', WHERE WHAT IT READS IS OF BULK AT MOST 1048576: true; the input reads as it did. -/
def evrBackUptoRow : OpenClaim := { program := "ytaibdghalhbpnaadoor", sum := "e9df1913b68fb50bdcdd86349687e30688f5da84a29aa48c0b2bef4aff5f24ac", func := "chandlery/chandlerylaw03.EvrBack", spec := "evrBack", inPlace := ["internal/bytealg.IndexByteString", "internal/bytealg.IndexString"], unfollowed := true, recurses := true, named := ["internal/bytealg.MaxLen", "strconv.ErrSyntax", "strconv.ErrRange", "internal/strconv.uint64pow10", "math/bits.deBruijn32tab", "math/bits.deBruijn64tab", "unicode/utf8.first", "unicode/utf8.acceptRanges"], apart := false, laid := [("math/bits.deBruijn32tab", laid_math_bits_deBruijn32tab), ("math/bits.deBruijn64tab", laid_math_bits_deBruijn64tab), ("internal/strconv.uint64pow10", laid_internal_strconv_uint64pow10), ("unicode/utf8.acceptRanges", laid_unicode_utf8_acceptRanges), ("strconv.ErrRange", laid_strconv_ErrRange), ("strconv.ErrSyntax", laid_strconv_ErrSyntax), ("unicode/utf8.first", laid_unicode_utf8_first)], narrowed := true }
def EvrBackUptoSaid : Prop := evrBackUptoRow.holds Tryd.pinned (OpenSpec.upto evrBackSpec)

/-- 'chandlerylaw03.EvrOrder', WHERE WHAT IT READS IS OF BULK AT MOST 1048576: true; the input reads as it did. -/
def evrOrderUptoRow : OpenClaim := { program := "ytaibdghalhbpnaadoor", sum := "e9df1913b68fb50bdcdd86349687e30688f5da84a29aa48c0b2bef4aff5f24ac", func := "chandlery/chandlerylaw03.EvrOrder", spec := "evrOrder", inPlace := ["internal/bytealg.IndexByteString", "internal/bytealg.IndexString"], unfollowed := true, recurses := true, named := ["internal/bytealg.MaxLen", "strconv.ErrSyntax", "strconv.ErrRange", "internal/strconv.uint64pow10", "math/bits.deBruijn32tab", "math/bits.deBruijn64tab", "unicode/utf8.first", "unicode/utf8.acceptRanges"], apart := false, laid := [("math/bits.deBruijn32tab", laid_math_bits_deBruijn32tab), ("math/bits.deBruijn64tab", laid_math_bits_deBruijn64tab), ("internal/strconv.uint64pow10", laid_internal_strconv_uint64pow10), ("unicode/utf8.acceptRanges", laid_unicode_utf8_acceptRanges), ("strconv.ErrRange", laid_strconv_ErrRange), ("strconv.ErrSyntax", laid_strconv_ErrSyntax), ("unicode/utf8.first", laid_unicode_utf8_first)], narrowed := true }
def EvrOrderUptoSaid : Prop := evrOrderUptoRow.holds Tryd.pinned (OpenSpec.upto evrOrderSpec)

/-- 'chandlerylaw03.EvrParts', WHERE WHAT IT READS IS OF BULK AT MOST 1048576: true; the input reads as it did. -/
def evrPartsUptoRow : OpenClaim := { program := "ytaibdghalhbpnaadoor", sum := "e9df1913b68fb50bdcdd86349687e30688f5da84a29aa48c0b2bef4aff5f24ac", func := "chandlery/chandlerylaw03.EvrParts", spec := "evrParts", inPlace := ["internal/bytealg.IndexByteString", "internal/bytealg.IndexString"], unfollowed := true, recurses := true, named := ["internal/bytealg.MaxLen", "strconv.ErrSyntax", "strconv.ErrRange", "internal/strconv.uint64pow10", "math/bits.deBruijn32tab", "math/bits.deBruijn64tab", "unicode/utf8.first", "unicode/utf8.acceptRanges"], apart := false, laid := [("math/bits.deBruijn32tab", laid_math_bits_deBruijn32tab), ("math/bits.deBruijn64tab", laid_math_bits_deBruijn64tab), ("internal/strconv.uint64pow10", laid_internal_strconv_uint64pow10), ("unicode/utf8.acceptRanges", laid_unicode_utf8_acceptRanges), ("strconv.ErrRange", laid_strconv_ErrRange), ("strconv.ErrSyntax", laid_strconv_ErrSyntax), ("unicode/utf8.first", laid_unicode_utf8_first)], narrowed := true }
def EvrPartsUptoSaid : Prop := evrPartsUptoRow.holds Tryd.pinned (OpenSpec.upto evrPartsSpec)

end Rows
end Go.Proofs.YtaibdghalhbpnaaDoor
