/-
  NARROWER THAN 'FOR EVERY INPUT', by the rows' own cells (each row's printed sentence says how): PkgCopies: loops, laid · StepsTells: loops, laid · StepsNames: laid · StepsThere: loops, laid · StepsLabels: loops, laid · StepsMore: loops, laid.
  DERIVED. THE GIVEN ROWS OF THIS SEAT. 6 by the template 'for every input the law returns true; each argument reads behind the call as it read before'; 0 by the template 'total and deterministic' (their statements: YtibeipmcggbbgaaGreatDoorTotals.lean).
  GIVEN WITH THE SEED: the statements are not yours to turn. If you find one false, say at which input.
  Laid BY PROGRAM, IN A SANDBOX (cutbox-rows.mjs): the forced cells as the released guide's own fill.sh prints them over the translation 376cde4c54dfe1a3… (all of the seat's roots in one cut). By AI agents, Wed Nov 11 2026. No macro, syntax, notation, axiom, sorry.
-/
import Derived.Test.YtibeipmcggbbgaaGreatDoorChecked
import GoSem.PinnedTables
import GoSem.Claim
import GoSem.ClaimJoined
import GoSem.ClaimMapViews
import Derived.JoinedTies
import Derived.KernelRfl
namespace Go.Proofs.YtibeipmcggbbgaaGreatDoor
/- THE CELL 'sum', in the pinned program and in every row, IS THE sha256 OF THE DUMP (.gsa) THAT YtibeipmcggbbgaaGreatDoorProg.lean LOADS. Nothing in Lean hashes anything: it is a label: what it is worth is what the hold of that sum in a sandbox is worth. -/
noncomputable def Tryz.pinned : Pinned := { name := "ytibeipmcggbbgaagreatdoor", sum := "376cde4c54dfe1a367ba1b47f267e2484f8b7ae5a41e94079c3850a895cef3b7", checked := Tryz.checked }
namespace Rows
def none {H : Type} : Left H := { results := [], args := [] }

/- WHAT THE LISTED PACKAGE-LEVEL VARIABLES READ AS WHEN THE CALL BEGINS. Each datum BY PROGRAM (the guide's laid-datum.mjs) off the statement by which the dump's own 'gosem.cut.vars' lays the variable. In a bare row this is a premise. The card (YtibeipmcggbbgaaGreatDoorCards.lean) ties it to the program's text. -/
def laid_unicode_utf8_acceptRanges {H : Type} : DataW H := .agg [.agg [.lit (.int .u8 128), .lit (.int .u8 191)], .agg [.lit (.int .u8 160), .lit (.int .u8 191)], .agg [.lit (.int .u8 128), .lit (.int .u8 159)], .agg [.lit (.int .u8 144), .lit (.int .u8 191)], .agg [.lit (.int .u8 128), .lit (.int .u8 143)], .agg [.lit (.int .u8 0), .lit (.int .u8 0)], .agg [.lit (.int .u8 0), .lit (.int .u8 0)], .agg [.lit (.int .u8 0), .lit (.int .u8 0)], .agg [.lit (.int .u8 0), .lit (.int .u8 0)], .agg [.lit (.int .u8 0), .lit (.int .u8 0)], .agg [.lit (.int .u8 0), .lit (.int .u8 0)], .agg [.lit (.int .u8 0), .lit (.int .u8 0)], .agg [.lit (.int .u8 0), .lit (.int .u8 0)], .agg [.lit (.int .u8 0), .lit (.int .u8 0)], .agg [.lit (.int .u8 0), .lit (.int .u8 0)], .agg [.lit (.int .u8 0), .lit (.int .u8 0)]]
def laid_chandlery_span_ops {H : Type} : DataW H := .map [(.string [], .lit (.int .u8 0)), (.string [60], .lit (.int .u8 1)), (.string [60, 61], .lit (.int .u8 3)), (.string [61], .lit (.int .u8 2)), (.string [62], .lit (.int .u8 4)), (.string [62, 61], .lit (.int .u8 6))]
def laid_chandlery_dep_words {H : Type} : DataW H := .agg [.lit (.string [97, 110, 100]), .lit (.string [111, 114]), .lit (.string [105, 102]), .lit (.string [101, 108, 115, 101]), .lit (.string [117, 110, 108, 101, 115, 115]), .lit (.string [119, 105, 116, 104]), .lit (.string [119, 105, 116, 104, 111, 117, 116])]
/-- One of Go's own tables, pinned by name: the form's constant. -/
def laid_unicode_utf8_first : DataW Unit := Go.Pinned.utf8First

/-- 'chandlerylaw10.PkgCopies': WHATEVER THE INPUT: true; the input reads as it did. -/
def pkgCopiesSpec : ChangeSpec := { name := "pkgCopies", fn := fun _ => fun
  | [d1, d2] => { results := [.lit (.bool true)], args := [d1, d2] }
  | _ => none }
def pkgCopiesRow : OpenClaim := { program := "ytibeipmcggbbgaagreatdoor", sum := "376cde4c54dfe1a367ba1b47f267e2484f8b7ae5a41e94079c3850a895cef3b7", func := "chandlery/chandlerylaw10.PkgCopies", spec := "pkgCopies", inPlace := ["internal/bytealg.IndexByteString", "internal/bytealg.IndexString"], unfollowed := true, recurses := true, named := ["chandlery/dep.words", "chandlery/span.ops", "unicode/utf8.first", "unicode/utf8.acceptRanges", "internal/bytealg.MaxLen"], loops := true, apart := false, laid := [("unicode/utf8.acceptRanges", laid_unicode_utf8_acceptRanges), ("chandlery/span.ops", laid_chandlery_span_ops), ("chandlery/dep.words", laid_chandlery_dep_words), ("unicode/utf8.first", laid_unicode_utf8_first)] }
def PkgCopiesSaid : Prop := pkgCopiesRow.holds Tryz.pinned (OpenSpec.ofChange pkgCopiesSpec)

/-- ITS FALSE NEIGHBOUR: 'it returns false'. Refute it at one input. -/
def pkgCopiesWrong : ChangeSpec := { name := "pkgCopies", fn := fun _ => fun
  | [d1, d2] => { results := [.lit (.bool false)], args := [d1, d2] }
  | _ => none }
def PkgCopiesWrongFalsely : Prop := pkgCopiesRow.holds Tryz.pinned (OpenSpec.ofChange pkgCopiesWrong)

/-- 'chandlerylaw30.StepsTells': WHATEVER THE INPUT: true; the input reads as it did. -/
def stepsTellsSpec : ChangeSpec := { name := "stepsTells", fn := fun _ => fun
  | [d1, d2, d3, d4, d5] => { results := [.lit (.bool true)], args := [d1, d2, d3, d4, d5] }
  | _ => none }
def stepsTellsRow : OpenClaim := { program := "ytibeipmcggbbgaagreatdoor", sum := "376cde4c54dfe1a367ba1b47f267e2484f8b7ae5a41e94079c3850a895cef3b7", func := "chandlery/chandlerylaw30.StepsTells", spec := "stepsTells", inPlace := ["internal/bytealg.IndexByteString", "internal/bytealg.IndexString"], unfollowed := true, recurses := true, named := ["chandlery/dep.words", "chandlery/span.ops", "unicode/utf8.first", "unicode/utf8.acceptRanges", "internal/bytealg.MaxLen"], loops := true, apart := false, laid := [("unicode/utf8.acceptRanges", laid_unicode_utf8_acceptRanges), ("chandlery/span.ops", laid_chandlery_span_ops), ("chandlery/dep.words", laid_chandlery_dep_words), ("unicode/utf8.first", laid_unicode_utf8_first)] }
def StepsTellsSaid : Prop := stepsTellsRow.holds Tryz.pinned (OpenSpec.ofChange stepsTellsSpec)

/-- ITS FALSE NEIGHBOUR: 'it returns false'. Refute it at one input. -/
def stepsTellsWrong : ChangeSpec := { name := "stepsTells", fn := fun _ => fun
  | [d1, d2, d3, d4, d5] => { results := [.lit (.bool false)], args := [d1, d2, d3, d4, d5] }
  | _ => none }
def StepsTellsWrongFalsely : Prop := stepsTellsRow.holds Tryz.pinned (OpenSpec.ofChange stepsTellsWrong)

/-- 'chandlerylaw30.StepsNames': WHATEVER THE INPUT: true; the input reads as it did. -/
def stepsNamesSpec : ChangeSpec := { name := "stepsNames", fn := fun _ => fun
  | [] => { results := [.lit (.bool true)], args := [] }
  | _ => none }
def stepsNamesRow : OpenClaim := { program := "ytibeipmcggbbgaagreatdoor", sum := "376cde4c54dfe1a367ba1b47f267e2484f8b7ae5a41e94079c3850a895cef3b7", func := "chandlery/chandlerylaw30.StepsNames", spec := "stepsNames", inPlace := ["internal/bytealg.IndexByteString", "internal/bytealg.IndexString"], unfollowed := true, recurses := true, named := ["unicode/utf8.first", "unicode/utf8.acceptRanges", "chandlery/dep.words", "chandlery/span.ops", "internal/bytealg.MaxLen"], apart := false, laid := [("unicode/utf8.acceptRanges", laid_unicode_utf8_acceptRanges), ("chandlery/span.ops", laid_chandlery_span_ops), ("chandlery/dep.words", laid_chandlery_dep_words), ("unicode/utf8.first", laid_unicode_utf8_first)] }
def StepsNamesSaid : Prop := stepsNamesRow.holds Tryz.pinned (OpenSpec.ofChange stepsNamesSpec)

/-- ITS FALSE NEIGHBOUR: 'it returns false'. Refute it at one input. -/
def stepsNamesWrong : ChangeSpec := { name := "stepsNames", fn := fun _ => fun
  | [] => { results := [.lit (.bool false)], args := [] }
  | _ => none }
def StepsNamesWrongFalsely : Prop := stepsNamesRow.holds Tryz.pinned (OpenSpec.ofChange stepsNamesWrong)

/-- 'chandlerylaw30.StepsThere': WHATEVER THE INPUT: true; the input reads as it did. -/
def stepsThereSpec : ChangeSpec := { name := "stepsThere", fn := fun _ => fun
  | [d1, d2, d3] => { results := [.lit (.bool true)], args := [d1, d2, d3] }
  | _ => none }
def stepsThereRow : OpenClaim := { program := "ytibeipmcggbbgaagreatdoor", sum := "376cde4c54dfe1a367ba1b47f267e2484f8b7ae5a41e94079c3850a895cef3b7", func := "chandlery/chandlerylaw30.StepsThere", spec := "stepsThere", inPlace := ["internal/bytealg.IndexByteString", "internal/bytealg.IndexString"], unfollowed := true, recurses := true, named := ["chandlery/dep.words", "chandlery/span.ops", "unicode/utf8.first", "unicode/utf8.acceptRanges", "internal/bytealg.MaxLen"], loops := true, apart := false, laid := [("unicode/utf8.acceptRanges", laid_unicode_utf8_acceptRanges), ("chandlery/span.ops", laid_chandlery_span_ops), ("chandlery/dep.words", laid_chandlery_dep_words), ("unicode/utf8.first", laid_unicode_utf8_first)] }
def StepsThereSaid : Prop := stepsThereRow.holds Tryz.pinned (OpenSpec.ofChange stepsThereSpec)

/-- ITS FALSE NEIGHBOUR: 'it returns false'. Refute it at one input. -/
def stepsThereWrong : ChangeSpec := { name := "stepsThere", fn := fun _ => fun
  | [d1, d2, d3] => { results := [.lit (.bool false)], args := [d1, d2, d3] }
  | _ => none }
def StepsThereWrongFalsely : Prop := stepsThereRow.holds Tryz.pinned (OpenSpec.ofChange stepsThereWrong)

/-- 'chandlerylaw30.StepsLabels': WHATEVER THE INPUT: true; the input reads as it did. -/
def stepsLabelsSpec : ChangeSpec := { name := "stepsLabels", fn := fun _ => fun
  | [d1, d2, d3] => { results := [.lit (.bool true)], args := [d1, d2, d3] }
  | _ => none }
def stepsLabelsRow : OpenClaim := { program := "ytibeipmcggbbgaagreatdoor", sum := "376cde4c54dfe1a367ba1b47f267e2484f8b7ae5a41e94079c3850a895cef3b7", func := "chandlery/chandlerylaw30.StepsLabels", spec := "stepsLabels", inPlace := ["internal/bytealg.IndexByteString", "internal/bytealg.IndexString"], unfollowed := true, recurses := true, named := ["chandlery/dep.words", "chandlery/span.ops", "unicode/utf8.first", "unicode/utf8.acceptRanges", "internal/bytealg.MaxLen"], loops := true, apart := false, laid := [("unicode/utf8.acceptRanges", laid_unicode_utf8_acceptRanges), ("chandlery/span.ops", laid_chandlery_span_ops), ("chandlery/dep.words", laid_chandlery_dep_words), ("unicode/utf8.first", laid_unicode_utf8_first)] }
def StepsLabelsSaid : Prop := stepsLabelsRow.holds Tryz.pinned (OpenSpec.ofChange stepsLabelsSpec)

/-- ITS FALSE NEIGHBOUR: 'it returns false'. Refute it at one input. -/
def stepsLabelsWrong : ChangeSpec := { name := "stepsLabels", fn := fun _ => fun
  | [d1, d2, d3] => { results := [.lit (.bool false)], args := [d1, d2, d3] }
  | _ => none }
def StepsLabelsWrongFalsely : Prop := stepsLabelsRow.holds Tryz.pinned (OpenSpec.ofChange stepsLabelsWrong)

/-- 'chandlerylaw30.StepsMore': WHATEVER THE INPUT: true; the input reads as it did. -/
def stepsMoreSpec : ChangeSpec := { name := "stepsMore", fn := fun _ => fun
  | [d1, d2, d3, d4] => { results := [.lit (.bool true)], args := [d1, d2, d3, d4] }
  | _ => none }
def stepsMoreRow : OpenClaim := { program := "ytibeipmcggbbgaagreatdoor", sum := "376cde4c54dfe1a367ba1b47f267e2484f8b7ae5a41e94079c3850a895cef3b7", func := "chandlery/chandlerylaw30.StepsMore", spec := "stepsMore", inPlace := ["internal/bytealg.IndexByteString", "internal/bytealg.IndexString"], unfollowed := true, recurses := true, named := ["chandlery/dep.words", "chandlery/span.ops", "unicode/utf8.first", "unicode/utf8.acceptRanges", "internal/bytealg.MaxLen"], loops := true, apart := false, laid := [("unicode/utf8.acceptRanges", laid_unicode_utf8_acceptRanges), ("chandlery/span.ops", laid_chandlery_span_ops), ("chandlery/dep.words", laid_chandlery_dep_words), ("unicode/utf8.first", laid_unicode_utf8_first)] }
def StepsMoreSaid : Prop := stepsMoreRow.holds Tryz.pinned (OpenSpec.ofChange stepsMoreSpec)

/-- ITS FALSE NEIGHBOUR: 'it returns false'. Refute it at one input. -/
def stepsMoreWrong : ChangeSpec := { name := "stepsMore", fn := fun _ => fun
  | [d1, d2, d3, d4] => { results := [.lit (.bool false)], args := [d1, d2, d3, d4] }
  | _ => none }
def StepsMoreWrongFalsely : Prop := stepsMoreRow.holds Tryz.pinned (OpenSpec.ofChange stepsMoreWrong)

/- THE SECOND FORM. 'bulk': how many values and letters a reading holds, each counted each time it is reached (what is shared counts as often as it is met; a slice's spare places count too). A statement '..UptoSaid' is the law's where the arguments, and the package variables that the reading takes, are together of bulk at most 1048576: NARROWER than '..Said'. Prove '..Said' where nothing that the law and all that it calls make is longer than what came in: it says more and counts as full. Else prove '..UptoSaid'. A law counts once. -/
mutual
def uptoBulk {H : Type} : DataW H → Nat
  | .lit (.string bytes) => bytes.length + 1
  | .lit _ => 1
  | .nil => 1
  | .ptr d => uptoBulk d + 1
  | .slice elems spare => uptoBulkAll elems + uptoBulkAll spare + 1
  | .agg parts => uptoBulkAll parts + 1
  | .iface _ d => uptoBulk d + 1
  | .map entries => uptoBulkEntries entries + 1
  | .held _ => 1
def uptoBulkAll {H : Type} : List (DataW H) → Nat
  | [] => 0
  | d :: r => uptoBulk d + uptoBulkAll r
def uptoBulkEntries {H : Type} : List (Lit × DataW H) → Nat
  | [] => 0
  | x :: r => uptoBulkEntry x + uptoBulkEntries r
def uptoBulkEntry {H : Type} : Lit × DataW H → Nat
  | (.string bytes, d) => bytes.length + uptoBulk d + 1
  | (_, d) => uptoBulk d + 1
 end
def uptoSmall : (H : Type) → List (DataW H) → Bool := fun _ ds => decide (uptoBulkAll ds ≤ 1048576)
def OpenSpec.upto (s : _root_.Go.ChangeSpec) : _root_.Go.OpenSpec := { _root_.Go.OpenSpec.ofChange s with cond := some uptoSmall }

/-- 'chandlerylaw10.PkgCopies', WHERE WHAT IT READS IS OF BULK AT MOST 1048576: true; the input reads as it did. -/
def pkgCopiesUptoRow : OpenClaim := { program := "ytibeipmcggbbgaagreatdoor", sum := "376cde4c54dfe1a367ba1b47f267e2484f8b7ae5a41e94079c3850a895cef3b7", func := "chandlery/chandlerylaw10.PkgCopies", spec := "pkgCopies", inPlace := ["internal/bytealg.IndexByteString", "internal/bytealg.IndexString"], unfollowed := true, recurses := true, named := ["chandlery/dep.words", "chandlery/span.ops", "unicode/utf8.first", "unicode/utf8.acceptRanges", "internal/bytealg.MaxLen"], loops := true, apart := false, laid := [("unicode/utf8.acceptRanges", laid_unicode_utf8_acceptRanges), ("chandlery/span.ops", laid_chandlery_span_ops), ("chandlery/dep.words", laid_chandlery_dep_words), ("unicode/utf8.first", laid_unicode_utf8_first)], narrowed := true }
def PkgCopiesUptoSaid : Prop := pkgCopiesUptoRow.holds Tryz.pinned (OpenSpec.upto pkgCopiesSpec)

/-- 'chandlerylaw30.StepsTells', WHERE WHAT IT READS IS OF BULK AT MOST 1048576: true; the input reads as it did. -/
def stepsTellsUptoRow : OpenClaim := { program := "ytibeipmcggbbgaagreatdoor", sum := "376cde4c54dfe1a367ba1b47f267e2484f8b7ae5a41e94079c3850a895cef3b7", func := "chandlery/chandlerylaw30.StepsTells", spec := "stepsTells", inPlace := ["internal/bytealg.IndexByteString", "internal/bytealg.IndexString"], unfollowed := true, recurses := true, named := ["chandlery/dep.words", "chandlery/span.ops", "unicode/utf8.first", "unicode/utf8.acceptRanges", "internal/bytealg.MaxLen"], loops := true, apart := false, laid := [("unicode/utf8.acceptRanges", laid_unicode_utf8_acceptRanges), ("chandlery/span.ops", laid_chandlery_span_ops), ("chandlery/dep.words", laid_chandlery_dep_words), ("unicode/utf8.first", laid_unicode_utf8_first)], narrowed := true }
def StepsTellsUptoSaid : Prop := stepsTellsUptoRow.holds Tryz.pinned (OpenSpec.upto stepsTellsSpec)

/-- 'chandlerylaw30.StepsNames', WHERE WHAT IT READS IS OF BULK AT MOST 1048576: true; the input reads as it did. -/
def stepsNamesUptoRow : OpenClaim := { program := "ytibeipmcggbbgaagreatdoor", sum := "376cde4c54dfe1a367ba1b47f267e2484f8b7ae5a41e94079c3850a895cef3b7", func := "chandlery/chandlerylaw30.StepsNames", spec := "stepsNames", inPlace := ["internal/bytealg.IndexByteString", "internal/bytealg.IndexString"], unfollowed := true, recurses := true, named := ["unicode/utf8.first", "unicode/utf8.acceptRanges", "chandlery/dep.words", "chandlery/span.ops", "internal/bytealg.MaxLen"], apart := false, laid := [("unicode/utf8.acceptRanges", laid_unicode_utf8_acceptRanges), ("chandlery/span.ops", laid_chandlery_span_ops), ("chandlery/dep.words", laid_chandlery_dep_words), ("unicode/utf8.first", laid_unicode_utf8_first)], narrowed := true }
def StepsNamesUptoSaid : Prop := stepsNamesUptoRow.holds Tryz.pinned (OpenSpec.upto stepsNamesSpec)

/-- 'chandlerylaw30.StepsThere', WHERE WHAT IT READS IS OF BULK AT MOST 1048576: true; the input reads as it did. -/
def stepsThereUptoRow : OpenClaim := { program := "ytibeipmcggbbgaagreatdoor", sum := "376cde4c54dfe1a367ba1b47f267e2484f8b7ae5a41e94079c3850a895cef3b7", func := "chandlery/chandlerylaw30.StepsThere", spec := "stepsThere", inPlace := ["internal/bytealg.IndexByteString", "internal/bytealg.IndexString"], unfollowed := true, recurses := true, named := ["chandlery/dep.words", "chandlery/span.ops", "unicode/utf8.first", "unicode/utf8.acceptRanges", "internal/bytealg.MaxLen"], loops := true, apart := false, laid := [("unicode/utf8.acceptRanges", laid_unicode_utf8_acceptRanges), ("chandlery/span.ops", laid_chandlery_span_ops), ("chandlery/dep.words", laid_chandlery_dep_words), ("unicode/utf8.first", laid_unicode_utf8_first)], narrowed := true }
def StepsThereUptoSaid : Prop := stepsThereUptoRow.holds Tryz.pinned (OpenSpec.upto stepsThereSpec)

/-- 'chandlerylaw30.StepsLabels', WHERE WHAT IT READS IS OF BULK AT MOST 1048576: true; the input reads as it did. -/
def stepsLabelsUptoRow : OpenClaim := { program := "ytibeipmcggbbgaagreatdoor", sum := "376cde4c54dfe1a367ba1b47f267e2484f8b7ae5a41e94079c3850a895cef3b7", func := "chandlery/chandlerylaw30.StepsLabels", spec := "stepsLabels", inPlace := ["internal/bytealg.IndexByteString", "internal/bytealg.IndexString"], unfollowed := true, recurses := true, named := ["chandlery/dep.words", "chandlery/span.ops", "unicode/utf8.first", "unicode/utf8.acceptRanges", "internal/bytealg.MaxLen"], loops := true, apart := false, laid := [("unicode/utf8.acceptRanges", laid_unicode_utf8_acceptRanges), ("chandlery/span.ops", laid_chandlery_span_ops), ("chandlery/dep.words", laid_chandlery_dep_words), ("unicode/utf8.first", laid_unicode_utf8_first)], narrowed := true }
def StepsLabelsUptoSaid : Prop := stepsLabelsUptoRow.holds Tryz.pinned (OpenSpec.upto stepsLabelsSpec)

/-- 'chandlerylaw30.StepsMore', WHERE WHAT IT READS IS OF BULK AT MOST 1048576: true; the input reads as it did. -/
def stepsMoreUptoRow : OpenClaim := { program := "ytibeipmcggbbgaagreatdoor", sum := "376cde4c54dfe1a367ba1b47f267e2484f8b7ae5a41e94079c3850a895cef3b7", func := "chandlery/chandlerylaw30.StepsMore", spec := "stepsMore", inPlace := ["internal/bytealg.IndexByteString", "internal/bytealg.IndexString"], unfollowed := true, recurses := true, named := ["chandlery/dep.words", "chandlery/span.ops", "unicode/utf8.first", "unicode/utf8.acceptRanges", "internal/bytealg.MaxLen"], loops := true, apart := false, laid := [("unicode/utf8.acceptRanges", laid_unicode_utf8_acceptRanges), ("chandlery/span.ops", laid_chandlery_span_ops), ("chandlery/dep.words", laid_chandlery_dep_words), ("unicode/utf8.first", laid_unicode_utf8_first)], narrowed := true }
def StepsMoreUptoSaid : Prop := stepsMoreUptoRow.holds Tryz.pinned (OpenSpec.upto stepsMoreSpec)

end Rows
end Go.Proofs.YtibeipmcggbbgaaGreatDoor
