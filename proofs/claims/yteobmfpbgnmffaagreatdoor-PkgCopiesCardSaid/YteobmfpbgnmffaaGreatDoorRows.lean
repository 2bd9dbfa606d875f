/-
  NARROWER THAN 'FOR EVERY INPUT', by the rows' own cells (each row's printed sentence says how): PkgCopies: loops, laid · StepsTells: loops, laid · StepsNames: laid · TruthMore: loops, laid · TruthTurned: loops, laid · TruthProviders: loops, laid · TruthTells: loops, laid · TruthNames: laid · TruthOne: loops, laid.
  DERIVED. THE GIVEN ROWS OF THIS SEAT. 9 by the template 'for every input the law returns true; each argument reads behind the call as it read before'; 0 by the template 'total and deterministic' (their statements: YteobmfpbgnmffaaGreatDoorTotals.lean).
  GIVEN WITH THE SEED: the statements are not yours to turn. If you find one false, say at which input.
  Laid BY PROGRAM, IN A SANDBOX (cutbox-rows.mjs): the forced cells as the released guide's own fill.sh prints them over the translation 74875767b55025bc… (all of the seat's roots in one cut). By AI agents, Wed Nov 11 2026. No macro, syntax, notation, axiom, sorry.
-/
import Derived.Test.YteobmfpbgnmffaaGreatDoorChecked
import GoSem.PinnedTables
import GoSem.Claim
import GoSem.ClaimJoined
import GoSem.ClaimMapViews
import Derived.JoinedTies
import Derived.KernelRfl
namespace Go.Proofs.YteobmfpbgnmffaaGreatDoor
/- THE CELL 'sum', in the pinned program and in every row, IS THE sha256 OF THE DUMP (.gsa) THAT YteobmfpbgnmffaaGreatDoorProg.lean LOADS. Nothing in Lean hashes anything: it is a label: what it is worth is what the hold of that sum in a sandbox is worth. -/
noncomputable def Tryz.pinned : Pinned := { name := "yteobmfpbgnmffaagreatdoor", sum := "74875767b55025bcf21e897c4d8b6dabeb021cb13499316e0167852fcafcffa0", checked := Tryz.checked }
namespace Rows
def none {H : Type} : Left H := { results := [], args := [] }

/- WHAT THE LISTED PACKAGE-LEVEL VARIABLES READ AS WHEN THE CALL BEGINS. Each datum BY PROGRAM (the guide's laid-datum.mjs) off the statement by which the dump's own 'gosem.cut.vars' lays the variable. In a bare row this is a premise. The card (YteobmfpbgnmffaaGreatDoorCards.lean) ties it to the program's text. -/
def laid_unicode_utf8_acceptRanges {H : Type} : DataW H := .agg [.agg [.lit (.int .u8 128), .lit (.int .u8 191)], .agg [.lit (.int .u8 160), .lit (.int .u8 191)], .agg [.lit (.int .u8 128), .lit (.int .u8 159)], .agg [.lit (.int .u8 144), .lit (.int .u8 191)], .agg [.lit (.int .u8 128), .lit (.int .u8 143)], .agg [.lit (.int .u8 0), .lit (.int .u8 0)], .agg [.lit (.int .u8 0), .lit (.int .u8 0)], .agg [.lit (.int .u8 0), .lit (.int .u8 0)], .agg [.lit (.int .u8 0), .lit (.int .u8 0)], .agg [.lit (.int .u8 0), .lit (.int .u8 0)], .agg [.lit (.int .u8 0), .lit (.int .u8 0)], .agg [.lit (.int .u8 0), .lit (.int .u8 0)], .agg [.lit (.int .u8 0), .lit (.int .u8 0)], .agg [.lit (.int .u8 0), .lit (.int .u8 0)], .agg [.lit (.int .u8 0), .lit (.int .u8 0)], .agg [.lit (.int .u8 0), .lit (.int .u8 0)]]
def laid_chandlery_span_ops {H : Type} : DataW H := .map [(.string [], .lit (.int .u8 0)), (.string [60], .lit (.int .u8 1)), (.string [60, 61], .lit (.int .u8 3)), (.string [61], .lit (.int .u8 2)), (.string [62], .lit (.int .u8 4)), (.string [62, 61], .lit (.int .u8 6))]
def laid_chandlery_dep_words {H : Type} : DataW H := .agg [.lit (.string [97, 110, 100]), .lit (.string [111, 114]), .lit (.string [105, 102]), .lit (.string [101, 108, 115, 101]), .lit (.string [117, 110, 108, 101, 115, 115]), .lit (.string [119, 105, 116, 104]), .lit (.string [119, 105, 116, 104, 111, 117, 116])]
/-- One of Go's own tables, pinned by name: the form's constant. -/
def laid_unicode_utf8_first : DataW Unit := Go.Pinned.utf8First
def laid_chandlery_rich_kinds {H : Type} : DataW H := .agg [.agg [.lit (.string []), .lit (.int .i64 0)], .agg [.lit (.string []), .lit (.int .i64 0)], .agg [.lit (.string [97, 110, 100]), .lit (.int .i64 24)], .agg [.lit (.string [111, 114]), .lit (.int .i64 24)], .agg [.lit (.string [105, 102]), .lit (.int .i64 3)], .agg [.lit (.string [117, 110, 108, 101, 115, 115]), .lit (.int .i64 3)], .agg [.lit (.string [119, 105, 116, 104]), .lit (.int .i64 24)], .agg [.lit (.string [119, 105, 116, 104, 111, 117, 116]), .lit (.int .i64 2)]]

/-- 'chandlerylaw10.PkgCopies': WHATEVER THE INPUT: true; the input reads as it did. -/
def pkgCopiesSpec : ChangeSpec := { name := "pkgCopies", fn := fun _ => fun
  | [d1, d2] => { results := [.lit (.bool true)], args := [d1, d2] }
  | _ => none }
def pkgCopiesRow : OpenClaim := { program := "yteobmfpbgnmffaagreatdoor", sum := "74875767b55025bcf21e897c4d8b6dabeb021cb13499316e0167852fcafcffa0", func := "chandlery/chandlerylaw10.PkgCopies", spec := "pkgCopies", inPlace := ["internal/bytealg.IndexByteString", "internal/bytealg.IndexString"], unfollowed := true, recurses := true, named := ["chandlery/dep.words", "chandlery/span.ops", "unicode/utf8.first", "unicode/utf8.acceptRanges", "internal/bytealg.MaxLen"], loops := true, apart := false, laid := [("unicode/utf8.acceptRanges", laid_unicode_utf8_acceptRanges), ("chandlery/span.ops", laid_chandlery_span_ops), ("chandlery/dep.words", laid_chandlery_dep_words), ("unicode/utf8.first", laid_unicode_utf8_first)] }
def PkgCopiesSaid : Prop := pkgCopiesRow.holds Tryz.pinned (OpenSpec.ofChange pkgCopiesSpec)

/-- ITS FALSE NEIGHBOUR: 'it returns false'. Refute it at one input. -/
def pkgCopiesWrong : ChangeSpec := { name := "pkgCopies", fn := fun _ => fun
  | [d1, d2] => { results := [.lit (.bool false)], args := [d1, d2] }
  | _ => none }
def PkgCopiesWrongFalsely : Prop := pkgCopiesRow.holds Tryz.pinned (OpenSpec.ofChange pkgCopiesWrong)

/-- 'chandlerylaw30.StepsTells': WHATEVER THE INPUT: true; the input reads as it did. -/
def stepsTellsSpec : ChangeSpec := { name := "stepsTells", fn := fun _ => fun
  | [d1, d2, d3, d4, d5] => { results := [.lit (.bool true)], args := [d1, d2, d3, d4, d5] }
  | _ => none }
def stepsTellsRow : OpenClaim := { program := "yteobmfpbgnmffaagreatdoor", sum := "74875767b55025bcf21e897c4d8b6dabeb021cb13499316e0167852fcafcffa0", func := "chandlery/chandlerylaw30.StepsTells", spec := "stepsTells", inPlace := ["internal/bytealg.IndexByteString", "internal/bytealg.IndexString"], unfollowed := true, recurses := true, named := ["chandlery/dep.words", "chandlery/span.ops", "unicode/utf8.first", "unicode/utf8.acceptRanges", "internal/bytealg.MaxLen"], loops := true, apart := false, laid := [("unicode/utf8.acceptRanges", laid_unicode_utf8_acceptRanges), ("chandlery/span.ops", laid_chandlery_span_ops), ("chandlery/dep.words", laid_chandlery_dep_words), ("unicode/utf8.first", laid_unicode_utf8_first)] }
def StepsTellsSaid : Prop := stepsTellsRow.holds Tryz.pinned (OpenSpec.ofChange stepsTellsSpec)

/-- ITS FALSE NEIGHBOUR: 'it returns false'. Refute it at one input. -/
def stepsTellsWrong : ChangeSpec := { name := "stepsTells", fn := fun _ => fun
  | [d1, d2, d3, d4, d5] => { results := [.lit (.bool false)], args := [d1, d2, d3, d4, d5] }
  | _ => none }
def StepsTellsWrongFalsely : Prop := stepsTellsRow.holds Tryz.pinned (OpenSpec.ofChange stepsTellsWrong)

/-- 'chandlerylaw30.StepsNames': WHATEVER THE INPUT: true; the input reads as it did. -/
def stepsNamesSpec : ChangeSpec := { name := "stepsNames", fn := fun _ => fun
  | [] => { results := [.lit (.bool true)], args := [] }
  | _ => none }
def stepsNamesRow : OpenClaim := { program := "yteobmfpbgnmffaagreatdoor", sum := "74875767b55025bcf21e897c4d8b6dabeb021cb13499316e0167852fcafcffa0", func := "chandlery/chandlerylaw30.StepsNames", spec := "stepsNames", inPlace := ["internal/bytealg.IndexByteString", "internal/bytealg.IndexString"], unfollowed := true, recurses := true, named := ["unicode/utf8.first", "unicode/utf8.acceptRanges", "chandlery/dep.words", "chandlery/span.ops", "internal/bytealg.MaxLen"], apart := false, laid := [("unicode/utf8.acceptRanges", laid_unicode_utf8_acceptRanges), ("chandlery/span.ops", laid_chandlery_span_ops), ("chandlery/dep.words", laid_chandlery_dep_words), ("unicode/utf8.first", laid_unicode_utf8_first)] }
def StepsNamesSaid : Prop := stepsNamesRow.holds Tryz.pinned (OpenSpec.ofChange stepsNamesSpec)

/-- ITS FALSE NEIGHBOUR: 'it returns false'. Refute it at one input. -/
def stepsNamesWrong : ChangeSpec := { name := "stepsNames", fn := fun _ => fun
  | [] => { results := [.lit (.bool false)], args := [] }
  | _ => none }
def StepsNamesWrongFalsely : Prop := stepsNamesRow.holds Tryz.pinned (OpenSpec.ofChange stepsNamesWrong)

/-- 'chandlerylaw14.TruthMore': WHATEVER THE INPUT: true; the input reads as it did. -/
def truthMoreSpec : ChangeSpec := { name := "truthMore", fn := fun _ => fun
  | [d1, d2, d3, d4, d5] => { results := [.lit (.bool true)], args := [d1, d2, d3, d4, d5] }
  | _ => none }
def truthMoreRow : OpenClaim := { program := "yteobmfpbgnmffaagreatdoor", sum := "74875767b55025bcf21e897c4d8b6dabeb021cb13499316e0167852fcafcffa0", func := "chandlery/chandlerylaw14.TruthMore", spec := "truthMore", inPlace := ["internal/bytealg.IndexByteString", "internal/bytealg.IndexString"], unfollowed := true, recurses := true, named := ["chandlery/dep.words", "chandlery/span.ops", "chandlery/rich.kinds", "unicode/utf8.first", "unicode/utf8.acceptRanges", "internal/bytealg.MaxLen"], loops := true, apart := false, laid := [("unicode/utf8.acceptRanges", laid_unicode_utf8_acceptRanges), ("chandlery/span.ops", laid_chandlery_span_ops), ("chandlery/dep.words", laid_chandlery_dep_words), ("chandlery/rich.kinds", laid_chandlery_rich_kinds), ("unicode/utf8.first", laid_unicode_utf8_first)] }
def TruthMoreSaid : Prop := truthMoreRow.holds Tryz.pinned (OpenSpec.ofChange truthMoreSpec)

/-- ITS FALSE NEIGHBOUR: 'it returns false'. Refute it at one input. -/
def truthMoreWrong : ChangeSpec := { name := "truthMore", fn := fun _ => fun
  | [d1, d2, d3, d4, d5] => { results := [.lit (.bool false)], args := [d1, d2, d3, d4, d5] }
  | _ => none }
def TruthMoreWrongFalsely : Prop := truthMoreRow.holds Tryz.pinned (OpenSpec.ofChange truthMoreWrong)

/-- 'chandlerylaw14.TruthTurned': WHATEVER THE INPUT: true; the input reads as it did. -/
def truthTurnedSpec : ChangeSpec := { name := "truthTurned", fn := fun _ => fun
  | [d1, d2, d3, d4, d5, d6] => { results := [.lit (.bool true)], args := [d1, d2, d3, d4, d5, d6] }
  | _ => none }
def truthTurnedRow : OpenClaim := { program := "yteobmfpbgnmffaagreatdoor", sum := "74875767b55025bcf21e897c4d8b6dabeb021cb13499316e0167852fcafcffa0", func := "chandlery/chandlerylaw14.TruthTurned", spec := "truthTurned", inPlace := ["internal/bytealg.IndexByteString", "internal/bytealg.IndexString"], unfollowed := true, recurses := true, named := ["chandlery/dep.words", "chandlery/span.ops", "chandlery/rich.kinds", "unicode/utf8.first", "unicode/utf8.acceptRanges", "internal/bytealg.MaxLen"], loops := true, apart := false, laid := [("unicode/utf8.acceptRanges", laid_unicode_utf8_acceptRanges), ("chandlery/span.ops", laid_chandlery_span_ops), ("chandlery/dep.words", laid_chandlery_dep_words), ("chandlery/rich.kinds", laid_chandlery_rich_kinds), ("unicode/utf8.first", laid_unicode_utf8_first)] }
def TruthTurnedSaid : Prop := truthTurnedRow.holds Tryz.pinned (OpenSpec.ofChange truthTurnedSpec)

/-- ITS FALSE NEIGHBOUR: 'it returns false'. Refute it at one input. -/
def truthTurnedWrong : ChangeSpec := { name := "truthTurned", fn := fun _ => fun
  | [d1, d2, d3, d4, d5, d6] => { results := [.lit (.bool false)], args := [d1, d2, d3, d4, d5, d6] }
  | _ => none }
def TruthTurnedWrongFalsely : Prop := truthTurnedRow.holds Tryz.pinned (OpenSpec.ofChange truthTurnedWrong)

/-- 'chandlerylaw14.TruthProviders': WHATEVER THE INPUT: true; the input reads as it did. -/
def truthProvidersSpec : ChangeSpec := { name := "truthProviders", fn := fun _ => fun
  | [d1, d2, d3, d4] => { results := [.lit (.bool true)], args := [d1, d2, d3, d4] }
  | _ => none }
def truthProvidersRow : OpenClaim := { program := "yteobmfpbgnmffaagreatdoor", sum := "74875767b55025bcf21e897c4d8b6dabeb021cb13499316e0167852fcafcffa0", func := "chandlery/chandlerylaw14.TruthProviders", spec := "truthProviders", inPlace := ["internal/bytealg.IndexByteString", "internal/bytealg.IndexString"], unfollowed := true, recurses := true, named := ["chandlery/dep.words", "chandlery/span.ops", "chandlery/rich.kinds", "unicode/utf8.first", "unicode/utf8.acceptRanges", "internal/bytealg.MaxLen"], loops := true, apart := false, laid := [("unicode/utf8.acceptRanges", laid_unicode_utf8_acceptRanges), ("chandlery/span.ops", laid_chandlery_span_ops), ("chandlery/dep.words", laid_chandlery_dep_words), ("chandlery/rich.kinds", laid_chandlery_rich_kinds), ("unicode/utf8.first", laid_unicode_utf8_first)] }
def TruthProvidersSaid : Prop := truthProvidersRow.holds Tryz.pinned (OpenSpec.ofChange truthProvidersSpec)

/-- ITS FALSE NEIGHBOUR: 'it returns false'. Refute it at one input. -/
def truthProvidersWrong : ChangeSpec := { name := "truthProviders", fn := fun _ => fun
  | [d1, d2, d3, d4] => { results := [.lit (.bool false)], args := [d1, d2, d3, d4] }
  | _ => none }
def TruthProvidersWrongFalsely : Prop := truthProvidersRow.holds Tryz.pinned (OpenSpec.ofChange truthProvidersWrong)

/-- 'chandlerylaw14.TruthTells': WHATEVER THE INPUT: true; the input reads as it did. -/
def truthTellsSpec : ChangeSpec := { name := "truthTells", fn := fun _ => fun
  | [d1, d2, d3, d4, d5] => { results := [.lit (.bool true)], args := [d1, d2, d3, d4, d5] }
  | _ => none }
def truthTellsRow : OpenClaim := { program := "yteobmfpbgnmffaagreatdoor", sum := "74875767b55025bcf21e897c4d8b6dabeb021cb13499316e0167852fcafcffa0", func := "chandlery/chandlerylaw14.TruthTells", spec := "truthTells", inPlace := ["internal/bytealg.IndexByteString", "internal/bytealg.IndexString"], unfollowed := true, recurses := true, named := ["chandlery/dep.words", "chandlery/span.ops", "chandlery/rich.kinds", "unicode/utf8.first", "unicode/utf8.acceptRanges", "internal/bytealg.MaxLen"], loops := true, apart := false, laid := [("unicode/utf8.acceptRanges", laid_unicode_utf8_acceptRanges), ("chandlery/span.ops", laid_chandlery_span_ops), ("chandlery/dep.words", laid_chandlery_dep_words), ("chandlery/rich.kinds", laid_chandlery_rich_kinds), ("unicode/utf8.first", laid_unicode_utf8_first)] }
def TruthTellsSaid : Prop := truthTellsRow.holds Tryz.pinned (OpenSpec.ofChange truthTellsSpec)

/-- ITS FALSE NEIGHBOUR: 'it returns false'. Refute it at one input. -/
def truthTellsWrong : ChangeSpec := { name := "truthTells", fn := fun _ => fun
  | [d1, d2, d3, d4, d5] => { results := [.lit (.bool false)], args := [d1, d2, d3, d4, d5] }
  | _ => none }
def TruthTellsWrongFalsely : Prop := truthTellsRow.holds Tryz.pinned (OpenSpec.ofChange truthTellsWrong)

/-- 'chandlerylaw14.TruthNames': WHATEVER THE INPUT: true; the input reads as it did. -/
def truthNamesSpec : ChangeSpec := { name := "truthNames", fn := fun _ => fun
  | [] => { results := [.lit (.bool true)], args := [] }
  | _ => none }
def truthNamesRow : OpenClaim := { program := "yteobmfpbgnmffaagreatdoor", sum := "74875767b55025bcf21e897c4d8b6dabeb021cb13499316e0167852fcafcffa0", func := "chandlery/chandlerylaw14.TruthNames", spec := "truthNames", inPlace := ["internal/bytealg.IndexByteString", "internal/bytealg.IndexString"], unfollowed := true, recurses := true, named := ["chandlery/rich.kinds", "chandlery/dep.words", "chandlery/span.ops", "unicode/utf8.first", "unicode/utf8.acceptRanges", "internal/bytealg.MaxLen"], apart := false, laid := [("unicode/utf8.acceptRanges", laid_unicode_utf8_acceptRanges), ("chandlery/span.ops", laid_chandlery_span_ops), ("chandlery/dep.words", laid_chandlery_dep_words), ("chandlery/rich.kinds", laid_chandlery_rich_kinds), ("unicode/utf8.first", laid_unicode_utf8_first)] }
def TruthNamesSaid : Prop := truthNamesRow.holds Tryz.pinned (OpenSpec.ofChange truthNamesSpec)

/-- ITS FALSE NEIGHBOUR: 'it returns false'. Refute it at one input. -/
def truthNamesWrong : ChangeSpec := { name := "truthNames", fn := fun _ => fun
  | [] => { results := [.lit (.bool false)], args := [] }
  | _ => none }
def TruthNamesWrongFalsely : Prop := truthNamesRow.holds Tryz.pinned (OpenSpec.ofChange truthNamesWrong)

/-- 'chandlerylaw14.TruthOne': WHATEVER THE INPUT: true; the input reads as it did. -/
def truthOneSpec : ChangeSpec := { name := "truthOne", fn := fun _ => fun
  | [d1, d2, d3, d4, d5] => { results := [.lit (.bool true)], args := [d1, d2, d3, d4, d5] }
  | _ => none }
def truthOneRow : OpenClaim := { program := "yteobmfpbgnmffaagreatdoor", sum := "74875767b55025bcf21e897c4d8b6dabeb021cb13499316e0167852fcafcffa0", func := "chandlery/chandlerylaw14.TruthOne", spec := "truthOne", inPlace := ["internal/bytealg.IndexByteString", "internal/bytealg.IndexString"], unfollowed := true, recurses := true, named := ["chandlery/dep.words", "chandlery/span.ops", "chandlery/rich.kinds", "unicode/utf8.first", "unicode/utf8.acceptRanges", "internal/bytealg.MaxLen"], loops := true, apart := false, laid := [("unicode/utf8.acceptRanges", laid_unicode_utf8_acceptRanges), ("chandlery/span.ops", laid_chandlery_span_ops), ("chandlery/dep.words", laid_chandlery_dep_words), ("chandlery/rich.kinds", laid_chandlery_rich_kinds), ("unicode/utf8.first", laid_unicode_utf8_first)] }
def TruthOneSaid : Prop := truthOneRow.holds Tryz.pinned (OpenSpec.ofChange truthOneSpec)

/-- ITS FALSE NEIGHBOUR: 'it returns false'. Refute it at one input. -/
def truthOneWrong : ChangeSpec := { name := "truthOne", fn := fun _ => fun
  | [d1, d2, d3, d4, d5] => { results := [.lit (.bool false)], args := [d1, d2, d3, d4, d5] }
  | _ => none }
def TruthOneWrongFalsely : Prop := truthOneRow.holds Tryz.pinned (OpenSpec.ofChange truthOneWrong)

/- THE SECOND FORM. 'bulk': how many values and letters a reading holds, each counted each time it is reached (what is shared counts as often as it is met; a slice's spare places count too). A statement '..UptoSaid' is the law's where the arguments, and the package variables that the reading takes, are together of bulk at most 1048576: NARROWER than '..Said'. Prove '..Said' where nothing that the law and all that it calls make is longer than what came in: it says more and counts as full. Else prove '..UptoSaid'. A law counts once. -/
mutual
def uptoBulk {H : Type} : DataW H → Nat
  | .lit (.string bytes) => bytes.length + 1
  | .lit _ => 1
  | .nil => 1
  | .ptr d => uptoBulk d + 1
  | .slice elems spare => uptoBulkAll elems + uptoBulkAll spare + 1
  | .agg parts => uptoBulkAll parts + 1
  | .iface _ d => uptoBulk d + 1
  | .map entries => uptoBulkEntries entries + 1
  | .held _ => 1
def uptoBulkAll {H : Type} : List (DataW H) → Nat
  | [] => 0
  | d :: r => uptoBulk d + uptoBulkAll r
def uptoBulkEntries {H : Type} : List (Lit × DataW H) → Nat
  | [] => 0
  | x :: r => uptoBulkEntry x + uptoBulkEntries r
def uptoBulkEntry {H : Type} : Lit × DataW H → Nat
  | (.string bytes, d) => bytes.length + uptoBulk d + 1
  | (_, d) => uptoBulk d + 1
 end
def uptoSmall : (H : Type) → List (DataW H) → Bool := fun _ ds => decide (uptoBulkAll ds ≤ 1048576)
def OpenSpec.upto (s : _root_.Go.ChangeSpec) : _root_.Go.OpenSpec := { _root_.Go.OpenSpec.ofChange s with cond := some uptoSmall }

/-- 'chandlerylaw10.PkgCopies', WHERE WHAT IT READS IS OF BULK AT MOST 1048576: true; the input reads as it did. -/
def pkgCopiesUptoRow : OpenClaim := { program := "yteobmfpbgnmffaagreatdoor", sum := "74875767b55025bcf21e897c4d8b6dabeb021cb13499316e0167852fcafcffa0", func := "chandlery/chandlerylaw10.PkgCopies", spec := "pkgCopies", inPlace := ["internal/bytealg.IndexByteString", "internal/bytealg.IndexString"], unfollowed := true, recurses := true, named := ["chandlery/dep.words", "chandlery/span.ops", "unicode/utf8.first", "unicode/utf8.acceptRanges", "internal/bytealg.MaxLen"], loops := true, apart := false, laid := [("unicode/utf8.acceptRanges", laid_unicode_utf8_acceptRanges), ("chandlery/span.ops", laid_chandlery_span_ops), ("chandlery/dep.words", laid_chandlery_dep_words), ("unicode/utf8.first", laid_unicode_utf8_first)], narrowed := true }
def PkgCopiesUptoSaid : Prop := pkgCopiesUptoRow.holds Tryz.pinned (OpenSpec.upto pkgCopiesSpec)

/-- 'chandlerylaw30.StepsTells', WHERE WHAT IT READS IS OF BULK AT MOST 1048576: true; the input reads as it did. -/
def stepsTellsUptoRow : OpenClaim := { program := "yteobmfpbgnmffaagreatdoor", sum := "74875767b55025bcf21e897c4d8b6dabeb021cb13499316e0167852fcafcffa0", func := "chandlery/chandlerylaw30.StepsTells", spec := "stepsTells", inPlace := ["internal/bytealg.IndexByteString", "internal/bytealg.IndexString"], unfollowed := true, recurses := true, named := ["chandlery/dep.words", "chandlery/span.ops", "unicode/utf8.first", "unicode/utf8.acceptRanges", "internal/bytealg.MaxLen"], loops := true, apart := false, laid := [("unicode/utf8.acceptRanges", laid_unicode_utf8_acceptRanges), ("chandlery/span.ops", laid_chandlery_span_ops), ("chandlery/dep.words", laid_chandlery_dep_words), ("unicode/utf8.first", laid_unicode_utf8_first)], narrowed := true }
def StepsTellsUptoSaid : Prop := stepsTellsUptoRow.holds Tryz.pinned (OpenSpec.upto stepsTellsSpec)

/-- 'chandlerylaw30.StepsNames', WHERE WHAT IT READS IS OF BULK AT MOST 1048576: true; the input reads as it did. -/
def stepsNamesUptoRow : OpenClaim := { program := "yteobmfpbgnmffaagreatdoor", sum := "74875767b55025bcf21e897c4d8b6dabeb021cb13499316e0167852fcafcffa0", func := "chandlery/chandlerylaw30.StepsNames", spec := "stepsNames", inPlace := ["internal/bytealg.IndexByteString", "internal/bytealg.IndexString"], unfollowed := true, recurses := true, named := ["unicode/utf8.first", "unicode/utf8.acceptRanges", "chandlery/dep.words", "chandlery/span.ops", "internal/bytealg.MaxLen"], apart := false, laid := [("unicode/utf8.acceptRanges", laid_unicode_utf8_acceptRanges), ("chandlery/span.ops", laid_chandlery_span_ops), ("chandlery/dep.words", laid_chandlery_dep_words), ("unicode/utf8.first", laid_unicode_utf8_first)], narrowed := true }
def StepsNamesUptoSaid : Prop := stepsNamesUptoRow.holds Tryz.pinned (OpenSpec.upto stepsNamesSpec)

/-- 'chandlerylaw14.TruthMore', WHERE WHAT IT READS IS OF BULK AT MOST 1048576: true; the input reads as it did. -/
def truthMoreUptoRow : OpenClaim := { program := "yteobmfpbgnmffaagreatdoor", sum := "74875767b55025bcf21e897c4d8b6dabeb021cb13499316e0167852fcafcffa0", func := "chandlery/chandlerylaw14.TruthMore", spec := "truthMore", inPlace := ["internal/bytealg.IndexByteString", "internal/bytealg.IndexString"], unfollowed := true, recurses := true, named := ["chandlery/dep.words", "chandlery/span.ops", "chandlery/rich.kinds", "unicode/utf8.first", "unicode/utf8.acceptRanges", "internal/bytealg.MaxLen"], loops := true, apart := false, laid := [("unicode/utf8.acceptRanges", laid_unicode_utf8_acceptRanges), ("chandlery/span.ops", laid_chandlery_span_ops), ("chandlery/dep.words", laid_chandlery_dep_words), ("chandlery/rich.kinds", laid_chandlery_rich_kinds), ("unicode/utf8.first", laid_unicode_utf8_first)], narrowed := true }
def TruthMoreUptoSaid : Prop := truthMoreUptoRow.holds Tryz.pinned (OpenSpec.upto truthMoreSpec)

/-- 'chandlerylaw14.TruthTurned', WHERE WHAT IT READS IS OF BULK AT MOST 1048576: true; the input reads as it did. -/
def truthTurnedUptoRow : OpenClaim := { program := "yteobmfpbgnmffaagreatdoor", sum := "74875767b55025bcf21e897c4d8b6dabeb021cb13499316e0167852fcafcffa0", func := "chandlery/chandlerylaw14.TruthTurned", spec := "truthTurned", inPlace := ["internal/bytealg.IndexByteString", "internal/bytealg.IndexString"], unfollowed := true, recurses := true, named := ["chandlery/dep.words", "chandlery/span.ops", "chandlery/rich.kinds", "unicode/utf8.first", "unicode/utf8.acceptRanges", "internal/bytealg.MaxLen"], loops := true, apart := false, laid := [("unicode/utf8.acceptRanges", laid_unicode_utf8_acceptRanges), ("chandlery/span.ops", laid_chandlery_span_ops), ("chandlery/dep.words", laid_chandlery_dep_words), ("chandlery/rich.kinds", laid_chandlery_rich_kinds), ("unicode/utf8.first", laid_unicode_utf8_first)], narrowed := true }
def TruthTurnedUptoSaid : Prop := truthTurnedUptoRow.holds Tryz.pinned (OpenSpec.upto truthTurnedSpec)

/-- 'chandlerylaw14.TruthProviders', WHERE WHAT IT READS IS OF BULK AT MOST 1048576: true; the input reads as it did. -/
def truthProvidersUptoRow : OpenClaim := { program := "yteobmfpbgnmffaagreatdoor", sum := "74875767b55025bcf21e897c4d8b6dabeb021cb13499316e0167852fcafcffa0", func := "chandlery/chandlerylaw14.TruthProviders", spec := "truthProviders", inPlace := ["internal/bytealg.IndexByteString", "internal/bytealg.IndexString"], unfollowed := true, recurses := true, named := ["chandlery/dep.words", "chandlery/span.ops", "chandlery/rich.kinds", "unicode/utf8.first", "unicode/utf8.acceptRanges", "internal/bytealg.MaxLen"], loops := true, apart := false, laid := [("unicode/utf8.acceptRanges", laid_unicode_utf8_acceptRanges), ("chandlery/span.ops", laid_chandlery_span_ops), ("chandlery/dep.words", laid_chandlery_dep_words), ("chandlery/rich.kinds", laid_chandlery_rich_kinds), ("unicode/utf8.first", laid_unicode_utf8_first)], narrowed := true }
def TruthProvidersUptoSaid : Prop := truthProvidersUptoRow.holds Tryz.pinned (OpenSpec.upto truthProvidersSpec)

/-- 'chandlerylaw14.TruthTells', WHERE WHAT IT READS IS OF BULK AT MOST 1048576: true; the input reads as it did. -/
def truthTellsUptoRow : OpenClaim := { program := "yteobmfpbgnmffaagreatdoor", sum := "74875767b55025bcf21e897c4d8b6dabeb021cb13499316e0167852fcafcffa0", func := "chandlery/chandlerylaw14.TruthTells", spec := "truthTells", inPlace := ["internal/bytealg.IndexByteString", "internal/bytealg.IndexString"], unfollowed := true, recurses := true, named := ["chandlery/dep.words", "chandlery/span.ops", "chandlery/rich.kinds", "unicode/utf8.first", "unicode/utf8.acceptRanges", "internal/bytealg.MaxLen"], loops := true, apart := false, laid := [("unicode/utf8.acceptRanges", laid_unicode_utf8_acceptRanges), ("chandlery/span.ops", laid_chandlery_span_ops), ("chandlery/dep.words", laid_chandlery_dep_words), ("chandlery/rich.kinds", laid_chandlery_rich_kinds), ("unicode/utf8.first", laid_unicode_utf8_first)], narrowed := true }
def TruthTellsUptoSaid : Prop := truthTellsUptoRow.holds Tryz.pinned (OpenSpec.upto truthTellsSpec)

/-- 'chandlerylaw14.TruthNames', WHERE WHAT IT READS IS OF BULK AT MOST 1048576: true; the input reads as it did. -/
def truthNamesUptoRow : OpenClaim := { program := "yteobmfpbgnmffaagreatdoor", sum := "74875767b55025bcf21e897c4d8b6dabeb021cb13499316e0167852fcafcffa0", func := "chandlery/chandlerylaw14.TruthNames", spec := "truthNames", inPlace := ["internal/bytealg.IndexByteString", "internal/bytealg.IndexString"], unfollowed := true, recurses := true, named := ["chandlery/rich.kinds", "chandlery/dep.words", "chandlery/span.ops", "unicode/utf8.first", "unicode/utf8.acceptRanges", "internal/bytealg.MaxLen"], apart := false, laid := [("unicode/utf8.acceptRanges", laid_unicode_utf8_acceptRanges), ("chandlery/span.ops", laid_chandlery_span_ops), ("chandlery/dep.words", laid_chandlery_dep_words), ("chandlery/rich.kinds", laid_chandlery_rich_kinds), ("unicode/utf8.first", laid_unicode_utf8_first)], narrowed := true }
def TruthNamesUptoSaid : Prop := truthNamesUptoRow.holds Tryz.pinned (OpenSpec.upto truthNamesSpec)

/-- 'chandlerylaw14.TruthOne', WHERE WHAT IT READS IS OF BULK AT MOST 1048576: true; the input reads as it did. -/
def truthOneUptoRow : OpenClaim := { program := "yteobmfpbgnmffaagreatdoor", sum := "74875767b55025bcf21e897c4d8b6dabeb021cb13499316e0167852fcafcffa0", func := "chandlery/chandlerylaw14.TruthOne", spec := "truthOne", inPlace := ["internal/bytealg.IndexByteString", "internal/bytealg.IndexString"], unfollowed := true, recurses := true, named := ["chandlery/dep.words", "chandlery/span.ops", "chandlery/rich.kinds", "unicode/utf8.first", "unicode/utf8.acceptRanges", "internal/bytealg.MaxLen"], loops := true, apart := false, laid := [("unicode/utf8.acceptRanges", laid_unicode_utf8_acceptRanges), ("chandlery/span.ops", laid_chandlery_span_ops), ("chandlery/dep.words", laid_chandlery_dep_words), ("chandlery/rich.kinds", laid_chandlery_rich_kinds), ("unicode/utf8.first", laid_unicode_utf8_first)], narrowed := true }
def TruthOneUptoSaid : Prop := truthOneUptoRow.holds Tryz.pinned (OpenSpec.upto truthOneSpec)

end Rows
end Go.Proofs.YteobmfpbgnmffaaGreatDoor
