/-
  DERIVED. GIVEN WITH THE SEED: THE CARDS: each row of YtaibdghalhbpnaaDoorRows.lean that lists a variable, with what it lists TIED to the program's text (the seventh form; the later family's looks); each row that meets fmt, with fmt's text TOLD by the authors' own Lean function (tested against real Go, not proved from fmt's source: count such statements apart). THE CARD IS WHAT COUNTS. Prove the row's statement (the work); the ties are given (YtaibdghalhbpnaaDoorTie.lean); close each card by the builder's one call (the guide's Derived/Test/ToyasCard.lean, 'card_holds'). Laid BY PROGRAM, IN A SANDBOX (cutbox-door.mjs). By AI agents, Wed Nov 11 2026. No macro, syntax, notation, axiom, sorry.
-/
import Derived.Test.YtaibdghalhbpnaaDoorRows
import GoSem.ClaimSeven
namespace Go.Proofs.YtaibdghalhbpnaaDoor
namespace Rows

/-- THE TIED CARD OF 'chandlerylaw04.SpanMeets'. -/
def spanMeetsCard : Claim7 := { stood := { row := spanMeetsRow, standIns := [], harness := (true, "de1c33a0f5a5186e20e7aa19f3f55e6c526efe6972437633cb7cbfd616ca16d6"), looks := true }, kinds := [], alts := [], laidByText := true, laidKinds := [.data, .mapped, .pinned], laidTests := true, laidLooks := .later }
def SpanMeetsCardSaid : Prop := Claim7.holds Tryd.pinned (.plain (OpenSpec.ofChange spanMeetsSpec)) spanMeetsCard

/-- THE TIED CARD OF 'chandlerylaw04.SpanEither'. -/
def spanEitherCard : Claim7 := { stood := { row := spanEitherRow, standIns := [], harness := (true, "de1c33a0f5a5186e20e7aa19f3f55e6c526efe6972437633cb7cbfd616ca16d6"), looks := true }, kinds := [], alts := [], laidByText := true, laidKinds := [.data, .mapped, .pinned], laidTests := true, laidLooks := .later }
def SpanEitherCardSaid : Prop := Claim7.holds Tryd.pinned (.plain (OpenSpec.ofChange spanEitherSpec)) spanEitherCard

/-- THE TIED CARD OF 'chandlerylaw04.SpanBoth'. -/
def spanBothCard : Claim7 := { stood := { row := spanBothRow, standIns := [], harness := (true, "de1c33a0f5a5186e20e7aa19f3f55e6c526efe6972437633cb7cbfd616ca16d6"), looks := true }, kinds := [], alts := [], laidByText := true, laidKinds := [.data, .mapped, .pinned], laidTests := true, laidLooks := .later }
def SpanBothCardSaid : Prop := Claim7.holds Tryd.pinned (.plain (OpenSpec.ofChange spanBothSpec)) spanBothCard

/-- THE TIED CARD OF 'chandlerylaw04.SpanMore'. -/
def spanMoreCard : Claim7 := { stood := { row := spanMoreRow, standIns := [], harness := (true, "de1c33a0f5a5186e20e7aa19f3f55e6c526efe6972437633cb7cbfd616ca16d6"), looks := true }, kinds := [], alts := [], laidByText := true, laidKinds := [.data, .mapped, .pinned], laidTests := true, laidLooks := .later }
def SpanMoreCardSaid : Prop := Claim7.holds Tryd.pinned (.plain (OpenSpec.ofChange spanMoreSpec)) spanMoreCard

/-- THE TIED CARD OF 'chandlerylaw04.SpanParted'. -/
def spanPartedCard : Claim7 := { stood := { row := spanPartedRow, standIns := [], harness := (true, "de1c33a0f5a5186e20e7aa19f3f55e6c526efe6972437633cb7cbfd616ca16d6"), looks := true }, kinds := [], alts := [], laidByText := true, laidKinds := [.data, .mapped, .pinned], laidTests := true, laidLooks := .later }
def SpanPartedCardSaid : Prop := Claim7.holds Tryd.pinned (.plain (OpenSpec.ofChange spanPartedSpec)) spanPartedCard

/-- THE TIED CARD OF 'chandlerylaw04.SpanOps'. -/
def spanOpsCard : Claim7 := { stood := { row := spanOpsRow, standIns := [], harness := (true, "de1c33a0f5a5186e20e7aa19f3f55e6c526efe6972437633cb7cbfd616ca16d6"), looks := true }, kinds := [], alts := [], laidByText := true, laidKinds := [.data, .mapped, .pinned], laidTests := true, laidLooks := .later }
def SpanOpsCardSaid : Prop := Claim7.holds Tryd.pinned (.plain (OpenSpec.ofChange spanOpsSpec)) spanOpsCard

/-- THE TIED CARD OF 'chandlerylaw04.SpanNames'. -/
def spanNamesCard : Claim7 := { stood := { row := spanNamesRow, standIns := [], harness := (true, "de1c33a0f5a5186e20e7aa19f3f55e6c526efe6972437633cb7cbfd616ca16d6"), looks := true }, kinds := [], alts := [], laidByText := true, laidKinds := [.data, .mapped, .pinned], laidTests := true, laidLooks := .later }
def SpanNamesCardSaid : Prop := Claim7.holds Tryd.pinned (.plain (OpenSpec.ofChange spanNamesSpec)) spanNamesCard

/-- THE TIED CARD OF 'chandlerylaw02.VercmpTells'. -/
def vercmpTellsCard : Claim7 := { stood := { row := vercmpTellsRow, standIns := [], harness := (true, "de1c33a0f5a5186e20e7aa19f3f55e6c526efe6972437633cb7cbfd616ca16d6"), looks := true }, kinds := [], alts := [], laidByText := true, laidKinds := [.data, .pinned], laidTests := true, laidLooks := .later }
def VercmpTellsCardSaid : Prop := Claim7.holds Tryd.pinned (.plain (OpenSpec.ofChange vercmpTellsSpec)) vercmpTellsCard

/-- THE TIED CARD OF 'chandlerylaw02.VercmpSorts'. -/
def vercmpSortsCard : Claim7 := { stood := { row := vercmpSortsRow, standIns := [], harness := (true, "de1c33a0f5a5186e20e7aa19f3f55e6c526efe6972437633cb7cbfd616ca16d6"), looks := true }, kinds := [], alts := [], laidByText := true, laidKinds := [.data, .pinned], laidTests := true, laidLooks := .later }
def VercmpSortsCardSaid : Prop := Claim7.holds Tryd.pinned (.plain (OpenSpec.ofChange vercmpSortsSpec)) vercmpSortsCard

/-- THE TIED CARD OF 'chandlerylaw02.VercmpNames'. -/
def vercmpNamesCard : Claim7 := { stood := { row := vercmpNamesRow, standIns := [], harness := (true, "de1c33a0f5a5186e20e7aa19f3f55e6c526efe6972437633cb7cbfd616ca16d6"), looks := true }, kinds := [], alts := [], laidByText := true, laidKinds := [.data, .pinned], laidTests := true, laidLooks := .later }
def VercmpNamesCardSaid : Prop := Claim7.holds Tryd.pinned (.plain (OpenSpec.ofChange vercmpNamesSpec)) vercmpNamesCard

/-- THE TIED CARD OF 'chandlerylaw02.VercmpRow'. -/
def vercmpRowCard : Claim7 := { stood := { row := vercmpRowRow, standIns := [], harness := (true, "de1c33a0f5a5186e20e7aa19f3f55e6c526efe6972437633cb7cbfd616ca16d6"), looks := true }, kinds := [], alts := [], laidByText := true, laidKinds := [.data, .pinned], laidTests := true, laidLooks := .later }
def VercmpRowCardSaid : Prop := Claim7.holds Tryd.pinned (.plain (OpenSpec.ofChange vercmpRowSpec)) vercmpRowCard

/-- THE TIED CARD OF 'chandlerylaw02.VercmpBehind'. -/
def vercmpBehindCard : Claim7 := { stood := { row := vercmpBehindRow, standIns := [], harness := (true, "de1c33a0f5a5186e20e7aa19f3f55e6c526efe6972437633cb7cbfd616ca16d6"), looks := true }, kinds := [], alts := [], laidByText := true, laidKinds := [.data, .pinned], laidTests := true, laidLooks := .later }
def VercmpBehindCardSaid : Prop := Claim7.holds Tryd.pinned (.plain (OpenSpec.ofChange vercmpBehindSpec)) vercmpBehindCard

/-- THE TIED CARD OF 'chandlerylaw02.VercmpNothing'. -/
def vercmpNothingCard : Claim7 := { stood := { row := vercmpNothingRow, standIns := [], harness := (true, "de1c33a0f5a5186e20e7aa19f3f55e6c526efe6972437633cb7cbfd616ca16d6"), looks := true }, kinds := [], alts := [], laidByText := true, laidKinds := [.data, .pinned], laidTests := true, laidLooks := .later }
def VercmpNothingCardSaid : Prop := Claim7.holds Tryd.pinned (.plain (OpenSpec.ofChange vercmpNothingSpec)) vercmpNothingCard

/-- THE TIED CARD OF 'chandlerylaw02.VercmpAhead'. -/
def vercmpAheadCard : Claim7 := { stood := { row := vercmpAheadRow, standIns := [], harness := (true, "de1c33a0f5a5186e20e7aa19f3f55e6c526efe6972437633cb7cbfd616ca16d6"), looks := true }, kinds := [], alts := [], laidByText := true, laidKinds := [.data, .pinned], laidTests := true, laidLooks := .later }
def VercmpAheadCardSaid : Prop := Claim7.holds Tryd.pinned (.plain (OpenSpec.ofChange vercmpAheadSpec)) vercmpAheadCard

/-- THE TIED CARD OF 'chandlerylaw02.VercmpSorted'. -/
def vercmpSortedCard : Claim7 := { stood := { row := vercmpSortedRow, standIns := [], harness := (true, "de1c33a0f5a5186e20e7aa19f3f55e6c526efe6972437633cb7cbfd616ca16d6"), looks := true }, kinds := [], alts := [], laidByText := true, laidKinds := [.data, .pinned], laidTests := true, laidLooks := .later }
def VercmpSortedCardSaid : Prop := Claim7.holds Tryd.pinned (.plain (OpenSpec.ofChange vercmpSortedSpec)) vercmpSortedCard

/-- THE TIED CARD OF 'chandlerylaw03.EvrNames'. -/
def evrNamesCard : Claim7 := { stood := { row := evrNamesRow, standIns := [], harness := (true, "de1c33a0f5a5186e20e7aa19f3f55e6c526efe6972437633cb7cbfd616ca16d6"), looks := true }, kinds := [], alts := [], laidByText := true, laidKinds := [.data, .data, .data, .data, .sentinel, .sentinel, .pinned], laidTests := true, laidLooks := .later }
def EvrNamesCardSaid : Prop := Claim7.holds Tryd.pinned (.plain (OpenSpec.ofChange evrNamesSpec)) evrNamesCard

/-- THE TIED CARD OF 'chandlerylaw03.EvrTells'. -/
def evrTellsCard : Claim7 := { stood := { row := evrTellsRow, standIns := [], harness := (true, "de1c33a0f5a5186e20e7aa19f3f55e6c526efe6972437633cb7cbfd616ca16d6"), looks := true }, kinds := [], alts := [], laidByText := true, laidKinds := [.data, .data, .data, .data, .sentinel, .sentinel, .pinned], laidTests := true, laidLooks := .later }
def EvrTellsCardSaid : Prop := Claim7.holds Tryd.pinned (.plain (OpenSpec.ofChange evrTellsSpec)) evrTellsCard

/-- THE TIED CARD OF 'chandlerylaw03.EvrBack'. -/
def evrBackCard : Claim7 := { stood := { row := evrBackRow, standIns := [], harness := (true, "de1c33a0f5a5186e20e7aa19f3f55e6c526efe6972437633cb7cbfd616ca16d6"), looks := true }, kinds := [], alts := [], laidByText := true, laidKinds := [.data, .data, .data, .data, .sentinel, .sentinel, .pinned], laidTests := true, laidLooks := .later }
def EvrBackCardSaid : Prop := Claim7.holds Tryd.pinned (.plain (OpenSpec.ofChange evrBackSpec)) evrBackCard

/-- THE TIED CARD OF 'chandlerylaw03.EvrOrder'. -/
def evrOrderCard : Claim7 := { stood := { row := evrOrderRow, standIns := [], harness := (true, "de1c33a0f5a5186e20e7aa19f3f55e6c526efe6972437633cb7cbfd616ca16d6"), looks := true }, kinds := [], alts := [], laidByText := true, laidKinds := [.data, .data, .data, .data, .sentinel, .sentinel, .pinned], laidTests := true, laidLooks := .later }
def EvrOrderCardSaid : Prop := Claim7.holds Tryd.pinned (.plain (OpenSpec.ofChange evrOrderSpec)) evrOrderCard

/-- THE TIED CARD OF 'chandlerylaw03.EvrParts'. -/
def evrPartsCard : Claim7 := { stood := { row := evrPartsRow, standIns := [], harness := (true, "de1c33a0f5a5186e20e7aa19f3f55e6c526efe6972437633cb7cbfd616ca16d6"), looks := true }, kinds := [], alts := [], laidByText := true, laidKinds := [.data, .data, .data, .data, .sentinel, .sentinel, .pinned], laidTests := true, laidLooks := .later }
def EvrPartsCardSaid : Prop := Claim7.holds Tryd.pinned (.plain (OpenSpec.ofChange evrPartsSpec)) evrPartsCard

/-- THE SECOND FORM's CARD OF 'chandlerylaw04.SpanMeets'. -/
def spanMeetsUptoCard : Claim7 := { stood := { row := spanMeetsUptoRow, standIns := [], harness := (true, "de1c33a0f5a5186e20e7aa19f3f55e6c526efe6972437633cb7cbfd616ca16d6"), looks := true }, kinds := [], alts := [], laidByText := true, laidKinds := [.data, .mapped, .pinned], laidTests := true, laidLooks := .later }
def SpanMeetsUptoCardSaid : Prop := Claim7.holds Tryd.pinned (.plain (OpenSpec.upto spanMeetsSpec)) spanMeetsUptoCard

/-- THE SECOND FORM's CARD OF 'chandlerylaw04.SpanEither'. -/
def spanEitherUptoCard : Claim7 := { stood := { row := spanEitherUptoRow, standIns := [], harness := (true, "de1c33a0f5a5186e20e7aa19f3f55e6c526efe6972437633cb7cbfd616ca16d6"), looks := true }, kinds := [], alts := [], laidByText := true, laidKinds := [.data, .mapped, .pinned], laidTests := true, laidLooks := .later }
def SpanEitherUptoCardSaid : Prop := Claim7.holds Tryd.pinned (.plain (OpenSpec.upto spanEitherSpec)) spanEitherUptoCard

/-- THE SECOND FORM's CARD OF 'chandlerylaw04.SpanBoth'. -/
def spanBothUptoCard : Claim7 := { stood := { row := spanBothUptoRow, standIns := [], harness := (true, "de1c33a0f5a5186e20e7aa19f3f55e6c526efe6972437633cb7cbfd616ca16d6"), looks := true }, kinds := [], alts := [], laidByText := true, laidKinds := [.data, .mapped, .pinned], laidTests := true, laidLooks := .later }
def SpanBothUptoCardSaid : Prop := Claim7.holds Tryd.pinned (.plain (OpenSpec.upto spanBothSpec)) spanBothUptoCard

/-- THE SECOND FORM's CARD OF 'chandlerylaw04.SpanMore'. -/
def spanMoreUptoCard : Claim7 := { stood := { row := spanMoreUptoRow, standIns := [], harness := (true, "de1c33a0f5a5186e20e7aa19f3f55e6c526efe6972437633cb7cbfd616ca16d6"), looks := true }, kinds := [], alts := [], laidByText := true, laidKinds := [.data, .mapped, .pinned], laidTests := true, laidLooks := .later }
def SpanMoreUptoCardSaid : Prop := Claim7.holds Tryd.pinned (.plain (OpenSpec.upto spanMoreSpec)) spanMoreUptoCard

/-- THE SECOND FORM's CARD OF 'chandlerylaw04.SpanParted'. -/
def spanPartedUptoCard : Claim7 := { stood := { row := spanPartedUptoRow, standIns := [], harness := (true, "de1c33a0f5a5186e20e7aa19f3f55e6c526efe6972437633cb7cbfd616ca16d6"), looks := true }, kinds := [], alts := [], laidByText := true, laidKinds := [.data, .mapped, .pinned], laidTests := true, laidLooks := .later }
def SpanPartedUptoCardSaid : Prop := Claim7.holds Tryd.pinned (.plain (OpenSpec.upto spanPartedSpec)) spanPartedUptoCard

/-- THE SECOND FORM's CARD OF 'chandlerylaw04.SpanOps'. -/
def spanOpsUptoCard : Claim7 := { stood := { row := spanOpsUptoRow, standIns := [], harness := (true, "de1c33a0f5a5186e20e7aa19f3f55e6c526efe6972437633cb7cbfd616ca16d6"), looks := true }, kinds := [], alts := [], laidByText := true, laidKinds := [.data, .mapped, .pinned], laidTests := true, laidLooks := .later }
def SpanOpsUptoCardSaid : Prop := Claim7.holds Tryd.pinned (.plain (OpenSpec.upto spanOpsSpec)) spanOpsUptoCard

/-- THE SECOND FORM's CARD OF 'chandlerylaw04.SpanNames'. -/
def spanNamesUptoCard : Claim7 := { stood := { row := spanNamesUptoRow, standIns := [], harness := (true, "de1c33a0f5a5186e20e7aa19f3f55e6c526efe6972437633cb7cbfd616ca16d6"), looks := true }, kinds := [], alts := [], laidByText := true, laidKinds := [.data, .mapped, .pinned], laidTests := true, laidLooks := .later }
def SpanNamesUptoCardSaid : Prop := Claim7.holds Tryd.pinned (.plain (OpenSpec.upto spanNamesSpec)) spanNamesUptoCard

/-- THE SECOND FORM's CARD OF 'chandlerylaw02.VercmpTells'. -/
def vercmpTellsUptoCard : Claim7 := { stood := { row := vercmpTellsUptoRow, standIns := [], harness := (true, "de1c33a0f5a5186e20e7aa19f3f55e6c526efe6972437633cb7cbfd616ca16d6"), looks := true }, kinds := [], alts := [], laidByText := true, laidKinds := [.data, .pinned], laidTests := true, laidLooks := .later }
def VercmpTellsUptoCardSaid : Prop := Claim7.holds Tryd.pinned (.plain (OpenSpec.upto vercmpTellsSpec)) vercmpTellsUptoCard

/-- THE SECOND FORM's CARD OF 'chandlerylaw02.VercmpSorts'. -/
def vercmpSortsUptoCard : Claim7 := { stood := { row := vercmpSortsUptoRow, standIns := [], harness := (true, "de1c33a0f5a5186e20e7aa19f3f55e6c526efe6972437633cb7cbfd616ca16d6"), looks := true }, kinds := [], alts := [], laidByText := true, laidKinds := [.data, .pinned], laidTests := true, laidLooks := .later }
def VercmpSortsUptoCardSaid : Prop := Claim7.holds Tryd.pinned (.plain (OpenSpec.upto vercmpSortsSpec)) vercmpSortsUptoCard

/-- THE SECOND FORM's CARD OF 'chandlerylaw02.VercmpNames'. -/
def vercmpNamesUptoCard : Claim7 := { stood := { row := vercmpNamesUptoRow, standIns := [], harness := (true, "de1c33a0f5a5186e20e7aa19f3f55e6c526efe6972437633cb7cbfd616ca16d6"), looks := true }, kinds := [], alts := [], laidByText := true, laidKinds := [.data, .pinned], laidTests := true, laidLooks := .later }
def VercmpNamesUptoCardSaid : Prop := Claim7.holds Tryd.pinned (.plain (OpenSpec.upto vercmpNamesSpec)) vercmpNamesUptoCard

/-- THE SECOND FORM's CARD OF 'chandlerylaw02.VercmpRow'. -/
def vercmpRowUptoCard : Claim7 := { stood := { row := vercmpRowUptoRow, standIns := [], harness := (true, "de1c33a0f5a5186e20e7aa19f3f55e6c526efe6972437633cb7cbfd616ca16d6"), looks := true }, kinds := [], alts := [], laidByText := true, laidKinds := [.data, .pinned], laidTests := true, laidLooks := .later }
def VercmpRowUptoCardSaid : Prop := Claim7.holds Tryd.pinned (.plain (OpenSpec.upto vercmpRowSpec)) vercmpRowUptoCard

/-- THE SECOND FORM's CARD OF 'chandlerylaw02.VercmpBehind'. -/
def vercmpBehindUptoCard : Claim7 := { stood := { row := vercmpBehindUptoRow, standIns := [], harness := (true, "de1c33a0f5a5186e20e7aa19f3f55e6c526efe6972437633cb7cbfd616ca16d6"), looks := true }, kinds := [], alts := [], laidByText := true, laidKinds := [.data, .pinned], laidTests := true, laidLooks := .later }
def VercmpBehindUptoCardSaid : Prop := Claim7.holds Tryd.pinned (.plain (OpenSpec.upto vercmpBehindSpec)) vercmpBehindUptoCard

/-- THE SECOND FORM's CARD OF 'chandlerylaw02.VercmpNothing'. -/
def vercmpNothingUptoCard : Claim7 := { stood := { row := vercmpNothingUptoRow, standIns := [], harness := (true, "de1c33a0f5a5186e20e7aa19f3f55e6c526efe6972437633cb7cbfd616ca16d6"), looks := true }, kinds := [], alts := [], laidByText := true, laidKinds := [.data, .pinned], laidTests := true, laidLooks := .later }
def VercmpNothingUptoCardSaid : Prop := Claim7.holds Tryd.pinned (.plain (OpenSpec.upto vercmpNothingSpec)) vercmpNothingUptoCard

/-- THE SECOND FORM's CARD OF 'chandlerylaw02.VercmpAhead'. -/
def vercmpAheadUptoCard : Claim7 := { stood := { row := vercmpAheadUptoRow, standIns := [], harness := (true, "de1c33a0f5a5186e20e7aa19f3f55e6c526efe6972437633cb7cbfd616ca16d6"), looks := true }, kinds := [], alts := [], laidByText := true, laidKinds := [.data, .pinned], laidTests := true, laidLooks := .later }
def VercmpAheadUptoCardSaid : Prop := Claim7.holds Tryd.pinned (.plain (OpenSpec.upto vercmpAheadSpec)) vercmpAheadUptoCard

/-- THE SECOND FORM's CARD OF 'chandlerylaw02.VercmpSorted'. -/
def vercmpSortedUptoCard : Claim7 := { stood := { row := vercmpSortedUptoRow, standIns := [], harness := (true, "de1c33a0f5a5186e20e7aa19f3f55e6c526efe6972437633cb7cbfd616ca16d6"), looks := true }, kinds := [], alts := [], laidByText := true, laidKinds := [.data, .pinned], laidTests := true, laidLooks := .later }
def VercmpSortedUptoCardSaid : Prop := Claim7.holds Tryd.pinned (.plain (OpenSpec.upto vercmpSortedSpec)) vercmpSortedUptoCard

/-- THE SECOND FORM's CARD OF 'chandlerylaw03.EvrNames'. -/
def evrNamesUptoCard : Claim7 := { stood := { row := evrNamesUptoRow, standIns := [], harness := (true, "de1c33a0f5a5186e20e7aa19f3f55e6c526efe6972437633cb7cbfd616ca16d6"), looks := true }, kinds := [], alts := [], laidByText := true, laidKinds := [.data, .data, .data, .data, .sentinel, .sentinel, .pinned], laidTests := true, laidLooks := .later }
def EvrNamesUptoCardSaid : Prop := Claim7.holds Tryd.pinned (.plain (OpenSpec.upto evrNamesSpec)) evrNamesUptoCard

/-- THE SECOND FORM's CARD OF 'chandlerylaw03.EvrTells'. -/
def evrTellsUptoCard : Claim7 := { stood := { row := evrTellsUptoRow, standIns := [], harness := (true, "de1c33a0f5a5186e20e7aa19f3f55e6c526efe6972437633cb7cbfd616ca16d6"), looks := true }, kinds := [], alts := [], laidByText := true, laidKinds := [.data, .data, .data, .data, .sentinel, .sentinel, .pinned], laidTests := true, laidLooks := .later }
def EvrTellsUptoCardSaid : Prop := Claim7.holds Tryd.pinned (.plain (OpenSpec.upto evrTellsSpec)) evrTellsUptoCard

/-- THE SECOND FORM's CARD OF 'chandlerylaw03.EvrBack'. -/
def evrBackUptoCard : Claim7 := { stood := { row := evrBackUptoRow, standIns := [], harness := (true, "de1c33a0f5a5186e20e7aa19f3f55e6c526efe6972437633cb7cbfd616ca16d6"), looks := true }, kinds := [], alts := [], laidByText := true, laidKinds := [.data, .data, .data, .data, .sentinel, .sentinel, .pinned], laidTests := true, laidLooks := .later }
def EvrBackUptoCardSaid : Prop := Claim7.holds Tryd.pinned (.plain (OpenSpec.upto evrBackSpec)) evrBackUptoCard

/-- THE SECOND FORM's CARD OF 'chandlerylaw03.EvrOrder'. -/
def evrOrderUptoCard : Claim7 := { stood := { row := evrOrderUptoRow, standIns := [], harness := (true, "de1c33a0f5a5186e20e7aa19f3f55e6c526efe6972437633cb7cbfd616ca16d6"), looks := true }, kinds := [], alts := [], laidByText := true, laidKinds := [.data, .data, .data, .data, .sentinel, .sentinel, .pinned], laidTests := true, laidLooks := .later }
def EvrOrderUptoCardSaid : Prop := Claim7.holds Tryd.pinned (.plain (OpenSpec.upto evrOrderSpec)) evrOrderUptoCard

/-- THE SECOND FORM's CARD OF 'chandlerylaw03.EvrParts'. -/
def evrPartsUptoCard : Claim7 := { stood := { row := evrPartsUptoRow, standIns := [], harness := (true, "de1c33a0f5a5186e20e7aa19f3f55e6c526efe6972437633cb7cbfd616ca16d6"), looks := true }, kinds := [], alts := [], laidByText := true, laidKinds := [.data, .data, .data, .data, .sentinel, .sentinel, .pinned], laidTests := true, laidLooks := .later }
def EvrPartsUptoCardSaid : Prop := Claim7.holds Tryd.pinned (.plain (OpenSpec.upto evrPartsSpec)) evrPartsUptoCard
end Rows
end Go.Proofs.YtaibdghalhbpnaaDoor
